/- The document's reader of a name. What the document's reader of an expression hands back; its plain words. Each lemma states its own conditions. -/
import Derived.Test.YtmfjlcpjemccmaaGreatDoorSms06
namespace Go.Proofs.YtmfjlcpjemccmaaGreatDoor
open Go.RowKit
def wordTB (k : Nat) : ByteArray := wordsT.getD k emp
theorem wordT_cell {w : World} {G : Nat} {t : TypeId} (h : Blk w G t (wordsT.map Value.string).toArray) {k : Nat} (hk : k < 10) : w.cell? ⟨G, k, none⟩ = some (.string (wordTB k)) := by
 refine Blk.cell h ?_
 unfold wordTB
 rw [List.getElem?_toArray, List.getElem?_map, List.getD_eq_getElem?_getD]
 have : k < wordsT.length := hk
 rw [List.getElem?_eq_getElem this]
 rfl
theorem isWord_yes {s : ByteArray} {k : Nat} (hk : k < 10) (h : wordTB k = s) : isWord s = true := by
 unfold isWord
 rw [List.any_eq_true]
 refine ⟨wordTB k, ?_, decide_eq_true h⟩
 unfold wordTB
 have : k < wordsT.length := hk
 rw [List.getD_eq_getElem?_getD, List.getElem?_eq_getElem this]
 exact List.getElem_mem this
theorem isWord_no {s : ByteArray} (h : ∀ k, k < 10 → wordTB k ≠ s) : isWord s = false := by
 unfold isWord
 rw [List.any_eq_false]
 intro x hx
 obtain ⟨k, hk, rfl⟩ := List.mem_iff_getElem.1 hx
 have := h k hk
 unfold wordTB at this
 rw [List.getD_eq_getElem?_getD, List.getElem?_eq_getElem hk] at this
 simpa using this
set_option maxRecDepth 20000 in
theorem isWord_any (s : ByteArray) (w : World) : Calls Tryz.prog 83 #[.string s] w fun r w' => r = .returned (.bool (isWord s)) ∧ Bel w w' := by
 have HB := Hi_ ((Bel.rfl_ w).al (.cells (wordsT.map Value.string).toArray 9))
 have HW := Hi_ (Blk.new w 9 (wordsT.map Value.string).toArray)
 go_enter Tryz.func83, Tryz.ntmps83
 go_upto_region 2 with fail
 have HW : Hid (Blk (w.alloc (.cells #[.string ⟨#[102, 117, 110, 99]⟩, .string ⟨#[109, 97, 105, 110]⟩, .string ⟨#[118, 97, 114]⟩, .string ⟨#[97, 114, 114]⟩, .string ⟨#[114, 101, 97, 100]⟩, .string ⟨#[112, 114, 105, 110, 116]⟩, .string ⟨#[105, 102]⟩, .string ⟨#[101, 108, 115, 101]⟩, .string ⟨#[119, 104, 105, 108, 101]⟩, .string ⟨#[114, 101, 116, 117, 114, 110]⟩] 9)) w.heap.size 9 (wordsT.map Value.string).toArray) := HW
 have HB : Hid (Bel w (w.alloc (.cells #[.string ⟨#[102, 117, 110, 99]⟩, .string ⟨#[109, 97, 105, 110]⟩, .string ⟨#[118, 97, 114]⟩, .string ⟨#[97, 114, 114]⟩, .string ⟨#[114, 101, 97, 100]⟩, .string ⟨#[112, 114, 105, 110, 116]⟩, .string ⟨#[105, 102]⟩, .string ⟨#[101, 108, 115, 101]⟩, .string ⟨#[119, 104, 105, 108, 101]⟩, .string ⟨#[114, 101, 116, 117, 114, 110]⟩] 9))) := HB
 generalize w.alloc (.cells #[.string ⟨#[102, 117, 110, 99]⟩, .string ⟨#[109, 97, 105, 110]⟩, .string ⟨#[118, 97, 114]⟩, .string ⟨#[97, 114, 114]⟩, .string ⟨#[114, 101, 97, 100]⟩, .string ⟨#[112, 114, 105, 110, 116]⟩, .string ⟨#[105, 102]⟩, .string ⟨#[101, 108, 115, 101]⟩, .string ⟨#[119, 104, 105, 108, 101]⟩, .string ⟨#[114, 101, 116, 117, 114, 110]⟩] 9) = W0 at *
 generalize w.heap.size = G at *
 go_wp2
 go_loopw [4] (fun t wr => ∃ k : Nat, k ≤ 10 ∧ t = .int .i64 k ∧ Hid (∀ j, j < k → wordTB j ≠ s) ∧ wr = W0) (fun t _ => 10 - (intOf t).toNat)
 case atStart => exact ⟨0, by omega, rfl, Hi_ (fun j hj => by omega), rfl⟩
 case round =>
  obtain ⟨k, hk, rfl, HS, rfl⟩ := hrel
  by_cases hlt : k < 10
  ·have hd : decide ((k : Int) < 10) = true := decide_eq_true (by omega)
   have x0 := wordT_cell HW.out hlt
   have i1 : (0 : Int) ≤ k := by omega
   have i2 : (k : Int) < 10 := by omega
   by_cases hs : wordTB k = s
   ·have hse := str_true hs
    have HR := Hi_ (isWord_yes hlt hs)
    clear hs
    go_wp2
    go_ret
    exact ⟨by rw [HR.out]; rfl, HB.out⟩
   ·have hse := str_false hs
    have HS2 : Hid (∀ j, j < k + 1 → wordTB j ≠ s) := Hi_ fun j hj => by
     rcases Nat.lt_succ_iff_lt_or_eq.1 hj with h | rfl
     ·exact HS.out j h
     ·exact hs
    clear hs
    go_wp2
    go_roundw
    case rel => exact ⟨k + 1, by omega, by go_num, HS2, trivial⟩
    case measure => simp [intOf]; omega
  ·obtain rfl : k = 10 := by omega
   have hd : decide (((10 : Nat) : Int) < 10) = false := decide_eq_false (by omega)
   have HR := Hi_ (isWord_no HS.out)
   go_wp2
   go_ret
   exact ⟨by rw [HR.out]; rfl, HB.out⟩
theorem isName_any (s : ByteArray) (w : World) (hm : s.size ≤ maxLen) : Calls Tryz.prog 37 #[.string s] w fun r w' => r = .returned (.bool (isName s)) ∧ Bel w w' := by
 have HT := Hi_ (fun W => (isToken_ref 1 s W hm).mono (R' := fun r w' => r = .returned (.bool (isTok 1 s)) ∧ w' = W) fun _ _ h => ⟨h.1, h.2.symm⟩)
 have HW := Hi_ (fun W => isWord_any s W)
 have HN : Hid (isName s = (isTok 1 s && !isWord s)) := Hi_ rfl
 clear hm
 generalize isWord s = b at *
 generalize isTok 1 s = a at *
 cases a with
 | false =>
  go_enter Tryz.func37, Tryz.ntmps37
  go_wp2_with fail
  refine (HT.out _).mono ?_
  rintro r w1 ⟨rfl, rfl⟩
  go_wp2
  go_ret
  exact ⟨by rw [HN.out]; rfl, Bel.rfl_ _⟩
 | true =>
  go_enter Tryz.func37, Tryz.ntmps37
  go_wp2_with fail
  refine (HT.out _).mono ?_
  rintro r w1 ⟨rfl, rfl⟩
  go_wp2_with fail
  refine (HW.out _).mono ?_
  rintro r w2 ⟨rfl, hb⟩
  have HB := Hi_ hb
  clear hb
  go_wp2
  go_ret
  exact ⟨by rw [HN.out, Bool.true_and]; rfl, HB.out⟩
theorem isName_emp : isName emp = false := by
 unfold isName
 rw [isTok_emp]
 rfl
theorem tok_max {l : List Tok} {p : Nat} {f : Bool} (hm : ∀ t ∈ l, t.text.size ≤ maxLen) : (tx l p f).size ≤ maxLen := by
 by_cases h : tx l p f = emp
 ·rw [h]; exact Nat.zero_le _
 ·obtain ⟨t, h1, h2, -⟩ := tx_some h
  rw [h2]
  exact hm t (List.mem_of_getElem? h1)
set_option maxRecDepth 20000 in
theorem name_d (l : List Tok) (lv : Value) (E g : Nat) (q : RS) (w : World) (hl : Sl tokR w lv l) (hn : l.length ≤ 6000) (hm : ∀ t ∈ l, t.text.size ≤ maxLen) (hp6 : q.1 ≤ l.length) (h : Rd w g lv q.1 E q.2) :
  Calls Tryz.prog 55 #[.pointer (some ⟨g, 0, none⟩)] w fun r w' => r = .returned (.string (nameD l q).1) ∧ Rd w' g lv (nameD l q).2.1 E (nameD l q).2.2 ∧ w.grownBy w' (some g) := by
 obtain ⟨p, f⟩ := q
 have HTX := Hi_ (text_any l lv p E g f w hl hn hp6 h)
 have HIN := Hi_ (fun W => isName_any (tx l p f) W (tok_max hm))
 have HP := Hi_ h
 have HN : Hid (nameD l (p, f) = if isName (tx l p f) then (tx l p f, (p + 1, f)) else (emp, (p, true))) := Hi_ rfl
 have hpl : p ≤ 6000 := Nat.le_trans hp6 hn
 clear h hl hn hm hp6
 cases hi : isName (tx l p f) with
 | true =>
  rw [hi, if_pos rfl] at HN
  rw [hi] at HIN
  clear hi
  go_enter Tryz.func55, Tryz.ntmps55
  go_wp2_with fail
  refine HTX.out.mono ?_
  rintro r w1 ⟨rfl, hb⟩
  replace HP := Hi_ (HP.out.keep hb)
  have HB := Hi_ hb
  clear hb HTX
  go_wp2_with fail
  refine (HIN.out _).mono ?_
  rintro r w2 ⟨rfl, hb⟩
  replace HP := Hi_ (HP.out.keep hb)
  replace HB := Hi_ (HB.out.tr hb)
  clear hb HIN
  obtain ⟨y0, y1, y2, y3, yf, -⟩ := HP.out.go
  go_wp2
  go_ret
  rw [HN.out]
  exact ⟨rfl, Rd.at_ HP.out (show (p : Int) + 1 = ((p + 1 : Nat) : Int) by omega), grownS_set (HB.out.grown _) 1 _⟩
 | false =>
  rw [hi, if_neg (by decide)] at HN
  rw [hi] at HIN
  clear hi
  go_enter Tryz.func55, Tryz.ntmps55
  go_wp2_with fail
  refine HTX.out.mono ?_
  rintro r w1 ⟨rfl, hb⟩
  replace HP := Hi_ (HP.out.keep hb)
  have HB := Hi_ hb
  clear hb HTX
  go_wp2_with fail
  refine (HIN.out _).mono ?_
  rintro r w2 ⟨rfl, hb⟩
  replace HP := Hi_ (HP.out.keep hb)
  replace HB := Hi_ (HB.out.tr hb)
  clear hb HIN
  obtain ⟨y0, y1, y2, y3, -, yf⟩ := HP.out.go
  go_wp2
  go_ret
  rw [HN.out]
  exact ⟨rfl, Rd.bad HP.out, grownS_set (HB.out.grown _) 3 _⟩
theorem nameD_le {l : List Tok} {q : RS} (h : q.1 ≤ l.length) : (nameD l q).2.1 ≤ l.length := by
 unfold nameD
 by_cases hi : isName (tx l q.1 q.2) = true
 ·rw [if_pos hi]
  refine tx_lt (l := l) (p := q.1) (f := q.2) fun e => ?_
  rw [e, isName_emp] at hi
  cases hi
 ·rw [if_neg hi]
  exact h
theorem jTX {l : List Tok} {lv : Value} {E g : Nat} {w0 : World} (hl : Sl tokR w0 lv l) (hn : l.length ≤ 6000) (W : World) (q : RS) (hb : Bel w0 W) (hq : q.1 ≤ l.length) (h : Rd W g lv q.1 E q.2) : Calls Tryz.prog 52 #[.pointer (some ⟨g, 0, none⟩), .int .i64 0] W fun r W' => r = .returned (.string (tx l q.1 q.2)) ∧ Bel W W' := text_any l lv q.1 E g q.2 W (hl.keep hb) hn hq h
theorem jT1 {l : List Tok} {lv : Value} {E g : Nat} {w0 : World} (hl : Sl tokR w0 lv l) (hn : l.length ≤ 6000) (W : World) (q : RS) (hb : Bel w0 W) (hq : q.1 ≤ l.length) (h : Rd W g lv q.1 E q.2) : Calls Tryz.prog 52 #[.pointer (some ⟨g, 0, none⟩), .int .i64 1] W fun r W' => r = .returned (.string (tx l (q.1 + 1) q.2)) ∧ Bel W W' := text1_any l lv q.1 E g q.2 W (hl.keep hb) hn hq h
theorem jND {l : List Tok} {lv : Value} {E g : Nat} {w0 : World} (hl : Sl tokR w0 lv l) (hn : l.length ≤ 6000) (W : World) (q : RS) (s : ByteArray) (hb : Bel w0 W) (hq : q.1 ≤ l.length) (h : Rd W g lv q.1 E q.2) : Calls Tryz.prog 54 #[.pointer (some ⟨g, 0, none⟩), .string s] W fun r W' => (∃ v, r = .returned v) ∧ Rd W' g lv (needD l s q).1 E (needD l s q).2 ∧ W.grownBy W' (some g) := need_d l lv E g q s W (hl.keep hb) hn hq h
theorem jNA {l : List Tok} {lv : Value} {E g : Nat} {w0 : World} (hl : Sl tokR w0 lv l) (hn : l.length ≤ 6000) (hm : ∀ t ∈ l, t.text.size ≤ maxLen) (W : World) (q : RS) (hb : Bel w0 W) (hq : q.1 ≤ l.length) (h : Rd W g lv q.1 E q.2) : Calls Tryz.prog 55 #[.pointer (some ⟨g, 0, none⟩)] W fun r W' => r = .returned (.string (nameD l q).1) ∧ Rd W' g lv (nameD l q).2.1 E (nameD l q).2.2 ∧ W.grownBy W' (some g) := name_d l lv E g q W (hl.keep hb) hn hm hq h
theorem jNU {l : List Tok} {lv : Value} {E g : Nat} {w0 : World} (hl : Sl tokR w0 lv l) (hn : l.length ≤ 6000) (hok : ∀ t ∈ l, TokOk t) (W : World) (q : RS) (hb : Bel w0 W) (hq : q.1 ≤ l.length) (h : Rd W g lv q.1 E q.2) : Calls Tryz.prog 93 #[.pointer (some ⟨g, 0, none⟩)] W fun r W' => r = .returned (.int .i64 (numD l q).1) ∧ Rd W' g lv (numD l q).2.1 E (numD l q).2.2 ∧ W.grownBy W' (some g) := number_d l lv E g q W (hl.keep hb) hn hok hq h
/-- what Expr hands back -/
def ExprRes (w : World) (g : Nat) (lv : Value) (E : Nat) (x : TE × RS) (r : Ending) (w' : World) : Prop :=
 w.grownBy w' (some g) ∧ Rd w' g lv x.2.1 E x.2.2 ∧ ∃ A c, r = .returned (.agg #[.int .i64 x.1.kind, .int .i64 x.1.at_, .int .i64 x.1.n, .string x.1.name, .slice A x.1.args.length c]) ∧ x.1.name.size ≤ maxLen ∧ Sl teR (low w.heap.size w') (.slice A x.1.args.length c) x.1.args
theorem ExprRes.mk {w : World} {g : Nat} {lv : Value} {E : Nat} {x : TE × RS} {w' : World} {k a n : Int} {s : ByteArray} {args : List TE} {q : RS} {A : Option Addr} {c : Nat} (hx : x = (.mk k a n s args, q)) (hg : w.grownBy w' (some g)) (hr : Rd w' g lv q.1 E q.2) (hs : s.size ≤ maxLen) (hl : Sl teR (low w.heap.size w') (.slice A args.length c) args) :
  ExprRes w g lv E x (.returned (.agg #[.int .i64 k, .int .i64 a, .int .i64 n, .string s, .slice A args.length c])) w' := by
 subst hx
 exact ⟨hg, hr, A, c, rfl, hs, hl⟩
theorem teR_more : More teR := by
 intro X Y hc cs x (h : TER X x cs)
 show TER Y x cs
 induction h with
 | mk k a n s args v f hs hv hf ih =>
  obtain ⟨A, c, h1, h2, h3, h4⟩ := hv
  exact .mk k a n s args v f hs ⟨A, c, h1, h2, h3, fun hp => by
   obtain ⟨b, o, hA, hx⟩ := h4 hp
   exact ⟨b, o, hA, fun i hi j u hu => hc _ _ _ (hx i hi j u hu)⟩⟩ ih
section
variable {B : Nat} {w : World}
/-- a new row of one expression, of two -/
theorem te_one {v : Value} {G : Nat} {t : TypeId} {a : TE} (hB : Blk w G t #[.int .i64 a.kind, .int .i64 a.at_, .int .i64 a.n, .string a.name, v]) (hG : B ≤ G) (hs : a.name.size ≤ maxLen) (hv : Sl teR (low B w) v a.args) : Sl teR (low B w) (.slice (some ⟨G, 0, none⟩) 1 1) [a] := by
 refine ⟨some ⟨G, 0, none⟩, 1, rfl, Nat.le_refl _, ⟨by simp [maxLen], fun h => by cases h⟩, fun _ => ⟨G, 0, rfl, fun i x hx => ?_⟩⟩
 cases i with
 | zero =>
  obtain rfl : a = x := by simpa using hx
  obtain ⟨k', a', n', s', args⟩ := a
  refine ⟨_, TER.shut hs hv, low_to (fun j u hu => hB.cell (i := 0 + 0 * teR.size + j) ?_) hG⟩
  simpa [TE.kind, TE.at_, TE.n, TE.name] using hu
 | succ i => simp at hx
theorem te_two {v u : Value} {G : Nat} {t : TypeId} {a b : TE} (hB : Blk w G t #[.int .i64 a.kind, .int .i64 a.at_, .int .i64 a.n, .string a.name, v, .int .i64 b.kind, .int .i64 b.at_, .int .i64 b.n, .string b.name, u]) (hG : B ≤ G) (hsa : a.name.size ≤ maxLen) (hsb : b.name.size ≤ maxLen)
  (hv : Sl teR (low B w) v a.args) (hu : Sl teR (low B w) u b.args) : Sl teR (low B w) (.slice (some ⟨G, 0, none⟩) 2 2) [a, b] := by
 refine ⟨some ⟨G, 0, none⟩, 2, rfl, Nat.le_refl _, ⟨by simp [maxLen], fun h => by cases h⟩, fun _ => ⟨G, 0, rfl, fun i x hx => ?_⟩⟩
 match i, hx with
 | 0, hx =>
  obtain rfl : a = x := by simpa using hx
  obtain ⟨k', a', n', s', args⟩ := a
  refine ⟨_, TER.shut hsa hv, low_to (fun j u' hu' => hB.cell (i := 0 + 0 * teR.size + j) ?_) hG⟩
  match j, hu' with
  | 0, h | 1, h | 2, h | 3, h | 4, h => simpa [TE.kind, TE.at_, TE.n, TE.name] using h
  | j + 5, h => simp at h
 | 1, hx =>
  obtain rfl : b = x := by simpa using hx
  obtain ⟨k', a', n', s', args⟩ := b
  refine ⟨_, TER.shut hsb hu, low_to (fun j u' hu' => hB.cell (i := 0 + 1 * teR.size + j) ?_) hG⟩
  match j, hu' with
  | 0, h | 1, h | 2, h | 3, h | 4, h => simpa [teR, TE.kind, TE.at_, TE.n, TE.name] using h
  | j + 5, h => simp at h
 | i + 2, hx => simp at hx
end
set_option maxRecDepth 20000 in
/-- Text draws alone -/
theorem text_q (l : List Tok) (lv : Value) (p E g : Nat) (f : Bool) (w : World) (hl : Sl tokR w lv l) (hn : l.length ≤ 6000) (hp6 : p ≤ l.length) (h : Rd w g lv p E f) :
  Calls Tryz.prog 52 #[.pointer (some ⟨g, 0, none⟩), .int .i64 0] w fun r w' => r = .returned (.string (tx l p f)) ∧ ∃ m, w' = w.drewN m := by
 obtain ⟨y0, y1, y2, y3, -, -⟩ := h.go
 obtain ⟨A, c, rfl, _, _, hA⟩ := hl
 cases f with
 | true =>
  clear hA h
  go_enter Tryz.func52, Tryz.ntmps52
  go_wp2
  go_quiet (fail)
  go_wp2
  go_ret
  exact ⟨rfl, _, rfl⟩
 | false =>
  by_cases hp : p < l.length
  ·obtain ⟨t, hx⟩ : ∃ t, l[p]? = some t := ⟨_, List.getElem?_eq_getElem hp⟩
   have HT : Hid (tx l p false = t.text) := Hi_ (by unfold tx; rw [if_neg (by decide), hx])
   obtain ⟨b, o, rfl, hcs⟩ := hA (by omega)
   obtain ⟨x0, x1, x2⟩ := tokR.cells hcs hx
   have d1 : decide (l.length ≤ p) = false := decide_eq_false (by omega)
   clear hcs hx hA h x0 x1
   go_enter Tryz.func52, Tryz.ntmps52
   go_wp2
   go_quiet (fail)
   go_wp2
   go_quiet (fail)
   go_wp2
   go_ret
   exact ⟨by rw [HT.out]; rfl, _, by rw [World.drewN_drewN]⟩
  ·have HT : Hid (tx l p false = emp) := Hi_ (by unfold tx; rw [if_neg (by decide), List.getElem?_eq_none (by omega)])
   have d1 : decide (l.length ≤ p) = true := decide_eq_true (by omega)
   clear hA h
   go_enter Tryz.func52, Tryz.ntmps52
   go_wp2
   go_quiet (fail)
   go_wp2
   go_ret
   exact ⟨by rw [HT.out]; rfl, _, rfl⟩
/-- the operators differ -/
theorem op_ne : ∀ i j : Fin 7, opB i.val = opB j.val → i = j := by decide +kernel
theorem op_emp : ∀ i : Fin 7, opB i.val ≠ emp := by decide +kernel
theorem opD_some {l : List Tok} {r : RS} {i : Nat} (h : opD l r = some i) : i < 7 ∧ tx l r.1 r.2 = opB i := by
 unfold opD at h
 exact ⟨List.mem_range.1 (List.mem_of_find?_eq_some h), by have := List.find?_some h; simpa using this⟩
theorem opD_yes {l : List Tok} {r : RS} {i : Nat} (hi : i < 7) (h : tx l r.1 r.2 = opB i) : opD l r = some i := by
 cases ho : opD l r with
 | none =>
  unfold opD at ho
  rw [List.find?_eq_none] at ho
  have := ho i (List.mem_range.2 hi)
  rw [h] at this
  simp at this
 | some j =>
  obtain ⟨h1, h2⟩ := opD_some ho
  have := op_ne ⟨i, hi⟩ ⟨j, h1⟩ (h.symm.trans h2)
  rw [Fin.mk.injEq] at this
  rw [this]
/-- the kind found among the first operators -/
def opK (o : Option Nat) (k : Nat) : Int := match o with
 | some i => if i < k then 4 + (i : Int) else 0
 | none => 0
theorem opK_yes {o : Option Nat} {k : Nat} (h : o = some k) : opK o (k + 1) = 4 + (k : Int) := by
 subst h
 unfold opK
 simp only []
 rw [if_pos (by omega)]
theorem opK_no {o : Option Nat} {k : Nat} (h : o ≠ some k) : opK o (k + 1) = opK o k := by
 unfold opK
 cases o with
 | none => rfl
 | some i =>
  have : i ≠ k := fun e => h (by rw [e])
  simp only []
  by_cases hk : i < k
  ·rw [if_pos hk, if_pos (by omega)]
  ·rw [if_neg hk, if_neg (by omega)]
theorem opK_end {l : List Tok} {r : RS} : opK (opD l r) 7 = match opD l r with
  | none => 0
  | some i => 4 + (i : Int) := by
 cases h : opD l r with
 | none => rfl
 | some i =>
  unfold opK
  simp only []
  exact if_pos (opD_some h).1
theorem ops_cell {w : World} {G : Nat} {t : TypeId} (h : Blk w G t (opsL.map Value.string).toArray) {k : Nat} (hk : k < 7) : w.cell? ⟨G, k, none⟩ = some (.string (opB k)) := by
 refine Blk.cell h ?_
 unfold opB
 rw [List.getElem?_toArray, List.getElem?_map, List.getD_eq_getElem?_getD]
 have : k < opsL.length := hk
 rw [List.getElem?_eq_getElem this]
 rfl
section
variable {l : List Tok} {E d p : Nat} {f : Bool}
theorem exprD_deep (h : tx l p f = lparB) : exprD l E 0 (p, f) = (.mk 1 (place l E p) 0 emp [], (p, true)) := by
 unfold exprD
 rw [if_pos h]
theorem exprD_dash (h1 : tx l p f ≠ lparB) (h2 : tx l p f = dashB) : exprD l E d (p, f) = (.mk 1 (place l E p) (-(numD l (failD (decide (tx l (needD l dashB (p, f)).1 (needD l dashB (p, f)).2 = zeroB)) (needD l dashB (p, f)))).1) emp [], (numD l (failD (decide (tx l (needD l dashB (p, f)).1 (needD l dashB (p, f)).2 = zeroB)) (needD l dashB (p, f)))).2) := by
 unfold exprD
 rw [if_neg h1, if_pos h2]
theorem exprD_num (h1 : tx l p f ≠ lparB) (h2 : tx l p f ≠ dashB) (h3 : digD (tx l p f) = true) : exprD l E d (p, f) = (.mk 1 (place l E p) (numD l (p, f)).1 emp [], (numD l (p, f)).2) := by
 unfold exprD
 rw [if_neg h1, if_neg h2, if_pos h3]
theorem exprD_name (h1 : tx l p f ≠ lparB) (h2 : tx l p f ≠ dashB) (h3 : digD (tx l p f) = false) (h4 : tx l (nameD l (p, f)).2.1 (nameD l (p, f)).2.2 ≠ lsqB) : exprD l E d (p, f) = (.mk 2 (place l E p) 0 (nameD l (p, f)).1 [], (nameD l (p, f)).2) := by
 unfold exprD
 rw [if_neg h1, if_neg h2, if_neg (by rw [h3]; decide)]
 simp only []
 rw [if_neg h4]
theorem exprD_celldeep (h1 : tx l p f ≠ lparB) (h2 : tx l p f ≠ dashB) (h3 : digD (tx l p f) = false) (h4 : tx l (nameD l (p, f)).2.1 (nameD l (p, f)).2.2 = lsqB) : exprD l E 0 (p, f) = (.mk 2 (place l E p) 0 (nameD l (p, f)).1 [], ((nameD l (p, f)).2.1, true)) := by
 unfold exprD
 rw [if_neg h1, if_neg h2, if_neg (by rw [h3]; decide)]
 simp only []
 rw [if_pos h4]
theorem exprD_cell (h1 : tx l p f ≠ lparB) (h2 : tx l p f ≠ dashB) (h3 : digD (tx l p f) = false) (h4 : tx l (nameD l (p, f)).2.1 (nameD l (p, f)).2.2 = lsqB) : exprD l E (d + 1) (p, f) = (.mk 3 (place l E p) 0 (nameD l (p, f)).1 [(exprD l E d (needD l lsqB (nameD l (p, f)).2)).1], needD l rsqB (exprD l E d (needD l lsqB (nameD l (p, f)).2)).2) := by
 conv => lhs; unfold exprD
 rw [if_neg h1, if_neg h2, if_neg (by rw [h3]; decide)]
 simp only []
 rw [if_pos h4]
/-- behind an operator -/
def opS (l : List Tok) (a : RS) : RS := match opD l a with
 | none => (a.1, true)
 | some i => needD l (opB i) a
theorem exprD_pair (h : tx l p f = lparB) : exprD l E (d + 1) (p, f) = (.mk (opK (opD l (exprD l E d (needD l lparB (p, f))).2) 7) (place l E p) 0 emp [(exprD l E d (needD l lparB (p, f))).1, (exprD l E d (opS l (exprD l E d (needD l lparB (p, f))).2)).1], needD l rparB (exprD l E d (opS l (exprD l E d (needD l lparB (p, f))).2)).2) := by
 conv => lhs; unfold exprD
 rw [if_pos h, opK_end]
 rfl
end
/-- it stays within the tokens -/
theorem failD_le {l : List Tok} {c : Bool} {q : RS} (h : q.1 ≤ l.length) : (failD c q).1 ≤ l.length := by
 unfold failD
 split
 ·exact h
 ·exact h
theorem opS_le {l : List Tok} {q : RS} (h : q.1 ≤ l.length) : (opS l q).1 ≤ l.length := by
 unfold opS
 cases ho : opD l q with
 | none => exact h
 | some i => exact needD_le (op_emp ⟨i, (opD_some ho).1⟩) h
theorem exprD_le {l : List Tok} {E : Nat} (hok : ∀ t ∈ l, TokOk t) : ∀ (d : Nat) (q : RS), q.1 ≤ l.length → (exprD l E d q).2.1 ≤ l.length
 | d, (p, f), hq => by
  by_cases h1 : tx l p f = lparB
  ·cases d with
   | zero => rw [exprD_deep h1]; exact hq
   | succ d =>
    rw [exprD_pair h1]
    exact needD_le (by decide) (exprD_le hok d _ (opS_le (exprD_le hok d _ (needD_le (by decide) hq))))
  ·by_cases h2 : tx l p f = dashB
   ·rw [exprD_dash h1 h2]
    exact (numD_le hok (failD_le (needD_le (by decide) hq))).1
   ·by_cases h3 : digD (tx l p f) = true
    ·rw [exprD_num h1 h2 h3]
     exact (numD_le hok hq).1
    ·have h3 : digD (tx l p f) = false := by simpa using h3
     by_cases h4 : tx l (nameD l (p, f)).2.1 (nameD l (p, f)).2.2 = lsqB
     ·cases d with
      | zero => rw [exprD_celldeep h1 h2 h3 h4]; exact nameD_le hq
      | succ d =>
       rw [exprD_cell h1 h2 h3 h4]
       exact needD_le (by decide) (exprD_le hok d _ (needD_le (by decide) (nameD_le hq)))
     ·rw [exprD_name h1 h2 h3 h4]
      exact nameD_le hq
end Go.Proofs.YtmfjlcpjemccmaaGreatDoor
