/- The document's reader: its small steps walked. The document's reader of a number: walked. The document's reader of a query, when it has failed: walked. The word that stands here, sought among all: plain words. The document's reader of a query, where no word fits: walked. The document's reader of a query in too many brackets: walked. What the document's reader of a query hands back. What the document's reader of a query hands back, whether it has failed or not. The state of the document's Ask: the reader, the query that is built, its result. The document's reader of numbers, from any state; the kind that is found. Each lemma states its own conditions. -/
import Derived.Test.YtegknpffiaeohaaDoorPrsI
import Derived.Test.YtegknpffiaeohaaDoorTelB
import Derived.Test.YtegknpffiaeohaaDoorBakS
namespace Go.Proofs.YtegknpffiaeohaaDoor
open Go.RowKit

/-- the reader's cells: the tokens, where it stands, the text's end, whether it has failed -/
def Rd (w : World) (g : Nat) (lv : Value) (p E : Nat) (f : Bool) : Prop := Blk w g 60 #[lv, .int .i64 p, .int .i64 E, .bool f]
section
variable {w w' : World} {g : Nat} {lv : Value} {p E : Nat} {f : Bool}
theorem Rd.go (h : Rd w g lv p E f) : w.cell? ⟨g, 0, none⟩ = some lv ∧ w.cell? ⟨g, 1, none⟩ = some (.int .i64 p) ∧ w.cell? ⟨g, 2, none⟩ = some (.int .i64 E) ∧ w.cell? ⟨g, 3, none⟩ = some (.bool f) ∧ w.frozen? ⟨g, 1, none⟩ = false ∧ w.frozen? ⟨g, 3, none⟩ = false := ⟨h.cell rfl, h.cell rfl, h.cell rfl, h.cell rfl, h.frozen 1, h.frozen 3⟩
theorem Rd.keep (h : Rd w g lv p E f) (hb : Bel w w') : Rd w' g lv p E f := Blk.keep h hb
theorem Rd.at_ (h : Rd w g lv p E f) {x : Int} {q : Nat} (hq : x = q) : Rd (w.setCell ⟨g, 1, none⟩ (.int .i64 x)) g lv q E f := by
  subst hq
  exact h.set_ 1 (.int .i64 q)
theorem Rd.bad (h : Rd w g lv p E f) : Rd (w.setCell ⟨g, 3, none⟩ (.bool true)) g lv p E true := h.set_ 3 (.bool true)
theorem Rd.lt (h : Rd w g lv p E f) : g < w.heap.size := Blk.lt h
end
/-- the text of the next token; none: there is none, or it has failed -/
def tx (l : List Tok) (p : Nat) (f : Bool) : ByteArray := if f then emp else match l[p]? with
  | some t => t.text
  | none => emp

set_option maxRecDepth 20000 in
theorem text_any (l : List Tok) (lv : Value) (p E g : Nat) (f : Bool) (w : World) (hl : Sl tokR w lv l) (hn : l.length ≤ 6000) (hp6 : p ≤ l.length) (h : Rd w g lv p E f) :
    Calls Tryd.prog 49 #[.pointer (some ⟨g, 0, none⟩), .int .i64 0] w fun r w' => r = .returned (.string (tx l p f)) ∧ Bel w w' := by
  obtain ⟨y0, y1, y2, y3, -, -⟩ := h.go
  obtain ⟨A, c, rfl, _, _, hA⟩ := hl
  cases f with
  | true =>
    clear hA h
    go_enter Tryd.func49, Tryd.ntmps49
    go_wp2
    go_quiet (fail)
    go_wp2
    go_ret
    exact ⟨rfl, (Bel.rfl_ w).drN _⟩
  | false =>
    by_cases hp : p < l.length
    · obtain ⟨t, hx⟩ : ∃ t, l[p]? = some t := ⟨_, List.getElem?_eq_getElem hp⟩
      have HT : Hid (tx l p false = t.text) := Lib.hid (by unfold tx; rw [if_neg (by decide), hx])
      obtain ⟨b, o, rfl, hcs⟩ := hA (by omega)
      obtain ⟨x0, x1, x2⟩ := tokR.cells hcs hx
      have d1 : decide (l.length ≤ p) = false := decide_eq_false (by omega)
      clear hcs hx hA h x0 x1
      go_enter Tryd.func49, Tryd.ntmps49
      go_wp2
      go_quiet (fail)
      go_wp2
      go_quiet (fail)
      go_wp2
      go_ret
      exact ⟨by rw [HT.out]; rfl, ((Bel.rfl_ w).drN _).drN _⟩
    · have HT : Hid (tx l p false = emp) := Lib.hid (by unfold tx; rw [if_neg (by decide), List.getElem?_eq_none (by omega)])
      have d1 : decide (l.length ≤ p) = true := decide_eq_true (by omega)
      clear hA h
      go_enter Tryd.func49, Tryd.ntmps49
      go_wp2
      go_quiet (fail)
      go_wp2
      go_ret
      exact ⟨by rw [HT.out]; rfl, (Bel.rfl_ w).drN _⟩

set_option maxRecDepth 20000 in
theorem here_any (l : List Tok) (lv : Value) (p E g : Nat) (f : Bool) (w : World) (hl : Sl tokR w lv l) (hn : l.length ≤ 6000) (h : Rd w g lv p E f) :
    Calls Tryd.prog 35 #[.pointer (some ⟨g, 0, none⟩)] w fun r w' => r = .returned (.int .i64 (place l E p)) ∧ Bel w w' := by
  obtain ⟨y0, y1, y2, y3, -, -⟩ := h.go
  obtain ⟨A, c, rfl, _, _, hA⟩ := hl
  by_cases hp : p < l.length
  · obtain ⟨t, hx⟩ : ∃ t, l[p]? = some t := ⟨_, List.getElem?_eq_getElem hp⟩
    have HPL := Lib.hid (place_some (E := E) hx)
    obtain ⟨b, o, rfl, hcs⟩ := hA (by omega)
    obtain ⟨x0, x1, x2⟩ := tokR.cells hcs hx
    have d1 : decide (p < l.length) = true := decide_eq_true (by omega)
    clear hcs hx hA h x0 x2
    go_enter Tryd.func35, Tryd.ntmps35
    go_wp2
    go_quiet (fail)
    go_wp2
    go_quiet (fail)
    go_wp2
    go_ret
    exact ⟨by rw [HPL.out]; rfl, ((Bel.rfl_ w).drN _).drN _⟩
  · have HPL := Lib.hid (place_none (E := E) hp)
    have d1 : decide (p < l.length) = false := decide_eq_false (by omega)
    clear hA h
    go_enter Tryd.func35, Tryd.ntmps35
    go_wp2
    go_quiet (fail)
    go_wp2
    go_ret
    exact ⟨by rw [HPL.out]; rfl, (Bel.rfl_ w).drN _⟩

set_option maxRecDepth 20000 in
theorem need_bad (lv : Value) (p E g : Nat) (s : ByteArray) (w : World) (h : Rd w g lv p E true) :
    Calls Tryd.prog 50 #[.pointer (some ⟨g, 0, none⟩), .string s] w fun r w' => (∃ v, r = .returned v) ∧ Bel w w' := by
  obtain ⟨y0, y1, y2, y3, -, -⟩ := h.go
  clear h
  go_enter Tryd.func50, Tryd.ntmps50
  go_wp2
  exact bodyPost_ret (v := .tuple #[]) (results_none rfl _ _ _) rfl ⟨⟨_, rfl⟩, Bel.rfl_ w⟩
set_option maxRecDepth 20000 in
theorem need_yes (l : List Tok) (lv : Value) (p E g : Nat) (s : ByteArray) (w : World) (hl : Sl tokR w lv l) (hn : l.length ≤ 6000) (hp6 : p ≤ l.length) (h : Rd w g lv p E false) (ht : tx l p false = s) :
    Calls Tryd.prog 50 #[.pointer (some ⟨g, 0, none⟩), .string s] w fun r w' => (∃ v, r = .returned v) ∧ Rd w' g lv (p + 1) E false ∧ w.grownBy w' (some g) := by
  have HTX := Lib.hid (text_any l lv p E g false w hl hn hp6 h)
  rw [ht] at HTX
  obtain ⟨y0, y1, y2, y3, -, -⟩ := h.go
  have HP := Lib.hid h
  have hee : (s.toList == s.toList) = true := by simp
  clear h ht
  go_enter Tryd.func50, Tryd.ntmps50
  go_wp2_with fail
  refine HTX.out.mono ?_
  rintro r w1 ⟨rfl, hb⟩
  replace HP := Lib.hid (HP.out.keep hb)
  have HB := Lib.hid hb
  obtain ⟨y0, y1, y2, y3, yf, -⟩ := HP.out.go
  clear hb HTX
  go_wp2
  exact bodyPost_end (v := .tuple #[]) (results_none rfl _ _ _) rfl ⟨⟨_, rfl⟩, Rd.at_ HP.out (by omega), grownS_set (HB.out.grown _) 1 _⟩
set_option maxRecDepth 20000 in
theorem need_no (l : List Tok) (lv : Value) (p E g : Nat) (s : ByteArray) (w : World) (hl : Sl tokR w lv l) (hn : l.length ≤ 6000) (hp6 : p ≤ l.length) (h : Rd w g lv p E false) (ht : tx l p false ≠ s) :
    Calls Tryd.prog 50 #[.pointer (some ⟨g, 0, none⟩), .string s] w fun r w' => (∃ v, r = .returned v) ∧ Rd w' g lv p E true ∧ w.grownBy w' (some g) := by
  have HTX := Lib.hid (text_any l lv p E g false w hl hn hp6 h)
  have hne := str_false ht
  obtain ⟨y0, y1, y2, y3, -, -⟩ := h.go
  have HP := Lib.hid h
  clear h ht
  generalize tx l p false = u at *
  go_enter Tryd.func50, Tryd.ntmps50
  go_wp2_with fail
  refine HTX.out.mono ?_
  rintro r w1 ⟨rfl, hb⟩
  replace HP := Lib.hid (HP.out.keep hb)
  have HB := Lib.hid hb
  obtain ⟨y0, y1, y2, y3, -, yf⟩ := HP.out.go
  clear hb HTX
  go_wp2
  exact bodyPost_end (v := .tuple #[]) (results_none rfl _ _ _) rfl ⟨⟨_, rfl⟩, Rd.bad HP.out, grownS_set (HB.out.grown _) 3 _⟩
end Go.Proofs.YtegknpffiaeohaaDoor

namespace Go.Proofs.YtegknpffiaeohaaDoor
open Go.RowKit

/-- a number's first digits -/
def nF (s : ByteArray) (j : Nat) : Int := (s.data.toList.take j).foldl (fun n b => 10 * n + (b.toNat : Int) - 48) 0
theorem nF_succ {s : ByteArray} {j : Nat} (h : j < s.size) : nF s (j + 1) = 10 * nF s j + (s[j].toNat : Int) - 48 := by
  unfold nF
  have hx : s.data.toList[j]? = some s[j] := by
    rw [Array.getElem?_toList]
    exact Array.getElem?_eq_getElem h
  rw [List.take_add_one, hx, List.foldl_append]
  rfl
theorem nF_end (s : ByteArray) : nF s s.size = numB s := by
  unfold nF numB
  rw [List.take_of_length_le (by simp)]
theorem nF_bound {s : ByteArray} (h : NumOk s) (j : Nat) : 0 ≤ nF s j ∧ nF s j ≤ 9999999 := by
  obtain ⟨h1, h2, h3⟩ := h
  have := numB_pow (s.data.toList.take j) 0 0 (fun b hb => h3 b (List.mem_of_mem_take hb)) (by omega) (by decide)
  have hl : (s.data.toList.take j).length ≤ 7 := by
    rw [List.length_take]
    have : s.data.toList.length ≤ 7 := by simpa using h2
    omega
  have hm : 10 ^ (0 + (s.data.toList.take j).length) ≤ 10 ^ 7 := Nat.pow_le_pow_right (by omega) (by omega)
  unfold nF
  have h7 : 10 ^ 7 = 10000000 := by decide
  generalize 10 ^ (0 + (s.data.toList.take j).length) = y at *
  omega

set_option maxRecDepth 20000 in
theorem number_yes (l : List Tok) (lv : Value) (p E g : Nat) (t : Tok) (w : World) (hl : Sl tokR w lv l) (hn : l.length ≤ 6000) (h : Rd w g lv p E false) (hx : l[p]? = some t) (ho : NumOk t.text) :
    Calls Tryd.prog 51 #[.pointer (some ⟨g, 0, none⟩)] w fun r w' => r = .returned (.int .i64 (numB t.text)) ∧ Rd w' g lv (p + 1) E false ∧ w.grownBy w' (some g) := by
  have hp := (List.getElem?_eq_some_iff.1 hx).1
  have HTX := Lib.hid (text_any l lv p E g false w hl hn (by omega) h)
  have e : tx l p false = t.text := by unfold tx; rw [if_neg (by decide), hx]
  rw [e] at HTX
  have HP := Lib.hid h
  have HO := Lib.hid ho
  clear h hl hx e
  generalize t.text = s at *
  obtain ⟨o1, o2, o3⟩ := ho
  have hne : (s.toList == []) = false := lit_false (fun (e : s = ⟨#[]⟩) => by
    rw [e] at o1
    exact absurd o1 (by decide))
  have hd0 : isD s[0].toNat = true := by
    have := o3 s[0] (by rw [Array.mem_toList_iff]; exact Array.getElem_mem _)
    simp only [isD, Bool.and_eq_true, decide_eq_true_eq]
    omega
  have hb0 : s[0].toNat < 256 := s[0].toNat_lt
  have HDG := Lib.hid (fun W => isDigit_any s[0].toNat hb0 W)
  rw [hd0] at HDG
  have i1 : 0 < s.size := o1
  clear hd0 o3
  go_enter Tryd.func51, Tryd.ntmps51
  go_wp2_with fail
  refine HTX.out.mono ?_
  rintro r w1 ⟨rfl, hb⟩
  replace HP := Lib.hid (HP.out.keep hb)
  have HB := Lib.hid hb
  clear hb HTX
  go_wp2_with fail
  refine (HDG.out _).mono ?_
  rintro r w2 ⟨rfl, rfl⟩
  go_wp2
  go_loopw [4, 5] (fun n t wr => ∃ j : Nat, j ≤ s.size ∧ t = .int .i64 j ∧ n = .int .i64 (nF s j) ∧ wr = w1) (fun _ t _ => s.size - (intOf t).toNat)
  case atStart => exact ⟨0, by omega, rfl, rfl, rfl⟩
  case round =>
    obtain ⟨j, hj, rfl, rfl, rfl⟩ := hrel
    by_cases hlt : j < s.size
    · have hd : decide ((j : Int) < s.size) = true := decide_eq_true (by omega)
      have HS := Lib.hid (nF_succ hlt)
      obtain ⟨n0, n1⟩ := nF_bound HO.out j
      have hbj : s[j].toNat < 256 := s[j].toNat_lt
      have i2 : (0 : Int) ≤ j := by omega
      have i3 : (j : Int) < s.size := by omega
      go_wp2
      go_roundw
      case rel => exact ⟨j + 1, by omega, by go_num, by rw [HS.out], trivial⟩
      case measure => simp [intOf]; omega
    · obtain rfl : j = s.size := by omega
      have hd : decide ((s.size : Int) < s.size) = false := decide_eq_false (by omega)
      have HE := Lib.hid (nF_end s)
      obtain ⟨y0, y1, y2, y3, yf, -⟩ := HP.out.go
      go_wp2
      go_ret
      exact ⟨by rw [← HE.out]; rfl, Rd.at_ HP.out (by omega), grownS_set (HB.out.grown _) 1 _⟩

theorem tx_some {l : List Tok} {p : Nat} {f : Bool} (h : tx l p f ≠ emp) : ∃ t, l[p]? = some t ∧ tx l p f = t.text ∧ f = false := by
  unfold tx at h ⊢
  cases f with
  | true => exact absurd rfl h
  | false =>
    cases hx : l[p]? with
    | none => rw [hx] at h; exact absurd rfl h
    | some t => exact ⟨t, rfl, by rw [if_neg (by decide)], rfl⟩
set_option maxRecDepth 20000 in
theorem number_no (l : List Tok) (lv : Value) (p E g : Nat) (f : Bool) (w : World) (hl : Sl tokR w lv l) (hn : l.length ≤ 6000) (hok : ∀ t ∈ l, TokOk t) (hp6 : p ≤ l.length) (h : Rd w g lv p E f) (hno : f = true ∨ ∀ t, l[p]? = some t → t.kind ≠ 2) :
    Calls Tryd.prog 51 #[.pointer (some ⟨g, 0, none⟩)] w fun r w' => r = .returned (.int .i64 0) ∧ Rd w' g lv p E true ∧ w.grownBy w' (some g) := by
  have HTX := Lib.hid (text_any l lv p E g f w hl hn hp6 h)
  have HP := Lib.hid h
  by_cases hs : tx l p f = emp
  · rw [hs] at HTX
    have he : (emp.toList == []) = true := lit_true rfl
    clear hs hno h hok
    generalize emp = s at *
    go_enter Tryd.func51, Tryd.ntmps51
    go_wp2_with fail
    refine HTX.out.mono ?_
    rintro r w1 ⟨rfl, hb⟩
    replace HP := Lib.hid (HP.out.keep hb)
    have HB := Lib.hid hb
    obtain ⟨y0, y1, y2, y3, -, yf⟩ := HP.out.go
    clear hb HTX
    go_wp2
    go_ret
    exact ⟨rfl, Rd.bad HP.out, grownS_set (HB.out.grown _) 3 _⟩
  · obtain ⟨t, hx, e, rfl⟩ := tx_some hs
    have hk : t.kind ≠ 2 := by
      rcases hno with hno | hno
      · cases hno
      · exact hno t hx
    obtain ⟨-, i1, hd⟩ := hok t (List.mem_of_getElem? hx)
    have hd := hd hk
    have hne : (t.text.toList == []) = false := lit_false (fun (e' : t.text = ⟨#[]⟩) => hs (e.trans e'))
    rw [e] at HTX
    rw [bt_in i1] at hd
    clear hs hno h hok hk e hx
    generalize t.text = s at *
    have hb0 : s[0].toNat < 256 := s[0].toNat_lt
    have HDG := Lib.hid (fun W => isDigit_any s[0].toNat hb0 W)
    rw [hd] at HDG
    clear hd
    go_enter Tryd.func51, Tryd.ntmps51
    go_wp2_with fail
    refine HTX.out.mono ?_
    rintro r w1 ⟨rfl, hb⟩
    replace HP := Lib.hid (HP.out.keep hb)
    have HB := Lib.hid hb
    clear hb HTX
    go_wp2_with fail
    refine (HDG.out _).mono ?_
    rintro r w2 ⟨rfl, rfl⟩
    obtain ⟨y0, y1, y2, y3, -, yf⟩ := HP.out.go
    go_wp2
    go_ret
    exact ⟨rfl, Rd.bad HP.out, grownS_set (HB.out.grown _) 3 _⟩
end Go.Proofs.YtegknpffiaeohaaDoor

namespace Go.Proofs.YtegknpffiaeohaaDoor
open Go.RowKit

theorem word_emp : ∀ k : Fin 15, 1 ≤ k.val → wordB k.val ≠ emp := by decide +kernel
set_option maxRecDepth 20000 in
set_option maxHeartbeats 1000000 in
theorem ask_bad (l : List Tok) (lv : Value) (p E g : Nat) (D : Int) (w : World) (hl : Sl tokR w lv l) (hn : l.length ≤ 6000) (hp6 : p ≤ l.length) (h : Rd w g lv p E true) :
    Calls Tryd.prog 34 #[.pointer (some ⟨g, 0, none⟩), .int .i64 D] w fun r w' => (∃ k n A m c, r = .returned (.agg #[.int .i64 k, .int .i64 n, .slice A m c])) ∧ Rd w' g lv p E true ∧ w.grownBy w' (some g) := by
  have HTX := Lib.hid (fun W (hb : Bel w W) => text_any l lv p E g true W (hl.keep hb) hn hp6 (h.keep hb))
  rw [show tx l p true = emp from rfl] at HTX
  have HP := Lib.hid h
  have HQ := Lib.hid (Blk.new (w.alloc (.cells #[.int .i64 0, .int .i64 0, .slice none 0 0] 24)) 24 #[.int .i64 0, .int .i64 0, .slice none 0 0])
  have HR := Lib.hid ((Blk.new w 24 #[.int .i64 0, .int .i64 0, .slice none 0 0]).keep ((Bel.rfl_ _).al (.cells #[.int .i64 0, .int .i64 0, .slice none 0 0] 24)))
  have HB := Lib.hid (((Bel.rfl_ w).al (.cells #[.int .i64 0, .int .i64 0, .slice none 0 0] 24)).al (.cells #[.int .i64 0, .int .i64 0, .slice none 0 0] 24))
  rw [World.size_alloc] at HQ
  have hgl := h.lt
  clear hl h
  have e40 : (emp.toList == [40]) = false := lit_false (fun (e : emp = ⟨#[40]⟩) => absurd e (by decide))
  have HWE : Hid (∀ k : Nat, 1 ≤ k → k < 15 → (emp.toList == (wordB k).toList) = false) := Lib.hid fun k h1 h2 => str_false (fun e => word_emp ⟨k, h2⟩ h1 e.symm)
  generalize emp = s at *
  go_enter Tryd.func34, Tryd.ntmps34
  go_upto_region 2 with fail
  generalize (w.alloc (.cells #[.int .i64 0, .int .i64 0, .slice none 0 0] 24)).alloc (.cells #[.int .i64 0, .int .i64 0, .slice none 0 0] 24) = W0 at *
  go_wp2_with fail
  refine (HTX.out _ HB.out).mono ?_
  rintro r w1 ⟨rfl, hb⟩
  have HX := Lib.hid hb
  clear hb
  go_wp2
  go_loopw [9] (fun t wr => ∃ k : Nat, 1 ≤ k ∧ k ≤ 15 ∧ t = .int .i64 k ∧ Hid (Bel W0 wr)) (fun t _ => 15 - (intOf t).toNat)
  case atStart => exact ⟨1, by omega, by omega, rfl, HX⟩
  case round =>
    obtain ⟨k, hk1, hk, rfl, HY⟩ := hrel
    clear HX
    by_cases hlt : k < 15
    · have hd : decide ((k : Int) ≤ 14) = true := decide_eq_true (by omega)
      have HG := Lib.hid (askArgs_any (k : Int))
      have HW := Lib.hid (askWord_any k (by omega))
      have hwe := HWE.out k hk1 hlt
      go_wp2_with fail
      refine (HG.out _).mono ?_
      rintro r w2 ⟨rfl, rfl⟩
      by_cases ha : arity (k : Int) < 2
      · have hd2 : decide (arity (k : Int) < 2) = true := decide_eq_true ha
        clear ha
        generalize arity (k : Int) = a at *
        go_wp2_with fail
        refine (HTX.out _ (HB.out.tr HY.out)).mono ?_
        rintro r w3 ⟨rfl, hb3⟩
        replace HY := Lib.hid (HY.out.tr hb3)
        clear hb3
        go_wp2_with fail
        refine (HW.out _).mono ?_
        rintro r w4 ⟨rfl, hb4⟩
        replace HY := Lib.hid (HY.out.tr hb4)
        clear hb4
        go_wp2
        go_roundw
        case rel => exact ⟨k + 1, by omega, by omega, by go_num, HY⟩
        case measure => simp [intOf]; omega
      · have hd2 : decide (arity (k : Int) < 2) = false := decide_eq_false ha
        clear ha
        generalize arity (k : Int) = a at *
        go_wp2
        go_roundw
        case rel => exact ⟨k + 1, by omega, by omega, by go_num, HY⟩
        case measure => simp [intOf]; omega
    · obtain rfl : k = 15 := by omega
      have hd : decide (((15 : Nat) : Int) ≤ 14) = false := decide_eq_false (by omega)
      replace HP := Lib.hid (HP.out.keep (HB.out.tr HY.out))
      replace HQ := Lib.hid (HQ.out.keep HY.out)
      replace HR := Lib.hid (HR.out.keep HY.out)
      replace HB := Lib.hid (HB.out.tr HY.out)
      clear HTX HWE
      obtain ⟨y0, y1, y2, y3, -, yf⟩ := HP.out.go
      have q0 := HQ.out.cell (i := 0) (v := .int .i64 0) rfl
      have q1 := HQ.out.cell (i := 1) (v := .int .i64 0) rfl
      have q2 := HQ.out.cell (i := 2) (v := .slice none 0 0) rfl
      have r0 := HR.out.cell (i := 0) (v := .int .i64 0) rfl
      have r1 := HR.out.cell (i := 1) (v := .int .i64 0) rfl
      have r2 := HR.out.cell (i := 2) (v := .slice none 0 0) rfl
      have f0 := HR.out.frozen 0
      have f1 := HR.out.frozen 1
      have f2 := HR.out.frozen 2
      have hne : g ≠ w.heap.size := by omega
      have hne2 : w.heap.size ≠ g := by omega
      go_wp2
      have HRZ := Lib.hid (three_set (a := .int .i64 0) (b := .int .i64 0) (c := .slice none 0 0) (HR.out.far_ hne2 3 (.bool true)))
      have z0 := HRZ.out.cell (i := 0) (v := .int .i64 0) rfl
      have z1 := HRZ.out.cell (i := 1) (v := .int .i64 0) rfl
      have z2 := HRZ.out.cell (i := 2) (v := .slice none 0 0) rfl
      have HPB := Lib.hid (Rd.bad HP.out)
      refine bodyPost_ret (v := .agg #[.int .i64 0, .int .i64 0, .slice none 0 0]) (by simp [results, z0, z1, z2, go_sem]) rfl ⟨⟨0, 0, none, 0, 0, rfl⟩, ?_, ?_⟩
      · exact ((Blk.far_ HPB.out hne 0 _).far_ hne 1 _).far_ hne 2 _
      · exact grownNew (grownNew (grownNew (grownS_set (HB.out.grown _) 3 _) (Nat.le_refl _) _ _) (Nat.le_refl _) _ _) (Nat.le_refl _) _ _
end Go.Proofs.YtegknpffiaeohaaDoor

namespace Go.Proofs.YtegknpffiaeohaaDoor
open Go.RowKit

theorem tk_tx {l : List Tok} {p : Nat} {s : ByteArray} (hs : s ≠ emp) : tk l p s = decide (tx l p false = s) := by
  unfold tx
  rw [if_neg (by decide)]
  cases hx : l[p]? with
  | none =>
    have : ¬ p < l.length := fun h => by rw [List.getElem?_eq_getElem h] at hx; cases hx
    rw [tk_none this]
    exact (decide_eq_false (fun e => hs e.symm)).symm
  | some t => rw [tk_some hx]
theorem mem_unK : ∀ k : Fin 15, k.val ∈ unK ↔ (1 ≤ k.val ∧ arity (k.val : Int) < 2) := by decide +kernel
theorem mem_binK : ∀ k : Fin 15, k.val ∈ binK ↔ (8 ≤ k.val ∧ k.val ≤ 13 ∧ arity (k.val : Int) = 2) := by decide +kernel
theorem wordP_un {l : List Tok} {p : Nat} (k : Fin 15) : wordP l unK p = some k.val ↔ (k.val ∈ unK ∧ tx l p false = wordB k.val) := by
  constructor
  · intro h
    obtain ⟨h1, h2⟩ := wordP_some h
    have hk := ((mem_unK k).1 h1).1
    rw [tk_tx (word_emp k hk)] at h2
    exact ⟨h1, of_decide_eq_true h2⟩
  · rintro ⟨h1, h2⟩
    rw [← unK_find k h1]
    unfold wordP
    congr 1
    funext j
    by_cases hj : wordB j = emp
    · rw [hj]
      have hk := word_emp k ((mem_unK k).1 h1).1
      have : wordB k.val ≠ emp := hk
      rw [decide_eq_false this]
      unfold tk
      refine decide_eq_false fun e => ?_
      unfold tx at h2
      rw [if_neg (by decide)] at h2
      cases hx : l[p]? with
      | none => rw [hx] at e; cases e
      | some t =>
        rw [hx] at e h2
        have e' : t.text = emp := Option.some.inj e
        exact hk (h2.symm.trans e')
    · rw [tk_tx hj, h2]
theorem wordP_bin {l : List Tok} {p : Nat} (k : Fin 15) : wordP l binK p = some k.val ↔ (k.val ∈ binK ∧ tx l p false = wordB k.val) := by
  constructor
  · intro h
    obtain ⟨h1, h2⟩ := wordP_some h
    have hk := ((mem_binK k).1 h1).1
    rw [tk_tx (word_emp k (by omega))] at h2
    exact ⟨h1, of_decide_eq_true h2⟩
  · rintro ⟨h1, h2⟩
    rw [← binK_find k h1]
    unfold wordP
    congr 1
    funext j
    by_cases hj : wordB j = emp
    · rw [hj]
      have hk := word_emp k (by have := ((mem_binK k).1 h1).1; omega)
      rw [decide_eq_false hk]
      unfold tk
      refine decide_eq_false fun e => ?_
      unfold tx at h2
      rw [if_neg (by decide)] at h2
      cases hx : l[p]? with
      | none => rw [hx] at e; cases e
      | some t =>
        rw [hx] at e h2
        have e' : t.text = emp := Option.some.inj e
        exact hk (h2.symm.trans e')
    · rw [tk_tx hj, h2]
/-- the kind found among the first ones -/
def upTo (R : Option Nat) (k : Nat) : Int := match R with
  | some k0 => if k0 < k then k0 else 0
  | none => 0
theorem upTo_yes {R : Option Nat} {k : Nat} (h : R = some k) : upTo R (k + 1) = k := by
  subst h
  unfold upTo
  simp only []
  rw [if_pos (by omega)]
theorem upTo_no {R : Option Nat} {k : Nat} (h : R ≠ some k) : upTo R (k + 1) = upTo R k := by
  unfold upTo
  cases R with
  | none => rfl
  | some k0 =>
    have : k0 ≠ k := fun e => h (by rw [e])
    simp only []
    by_cases hk : k0 < k
    · rw [if_pos hk, if_pos (by omega)]
    · rw [if_neg hk, if_neg (by omega)]
end Go.Proofs.YtegknpffiaeohaaDoor

namespace Go.Proofs.YtegknpffiaeohaaDoor
open Go.RowKit

set_option maxRecDepth 20000 in
set_option maxHeartbeats 1000000 in
theorem ask_none (l : List Tok) (lv : Value) (p E g : Nat) (D : Int) (w : World) (hl : Sl tokR w lv l) (hn : l.length ≤ 6000) (hp6 : p ≤ l.length) (h : Rd w g lv p E false) (ht : tk l p lparB = false) (hw : wordP l unK p = none) :
    Calls Tryd.prog 34 #[.pointer (some ⟨g, 0, none⟩), .int .i64 D] w fun r w' => (∃ k n A m c, r = .returned (.agg #[.int .i64 k, .int .i64 n, .slice A m c])) ∧ Rd w' g lv p E true ∧ w.grownBy w' (some g) := by
  have HTX := Lib.hid (fun W (hb : Bel w W) => text_any l lv p E g false W (hl.keep hb) hn hp6 (h.keep hb))
  have HP := Lib.hid h
  have HQ := Lib.hid (Blk.new (w.alloc (.cells #[.int .i64 0, .int .i64 0, .slice none 0 0] 24)) 24 #[.int .i64 0, .int .i64 0, .slice none 0 0])
  have HR := Lib.hid ((Blk.new w 24 #[.int .i64 0, .int .i64 0, .slice none 0 0]).keep ((Bel.rfl_ _).al (.cells #[.int .i64 0, .int .i64 0, .slice none 0 0] 24)))
  have HB := Lib.hid (((Bel.rfl_ w).al (.cells #[.int .i64 0, .int .i64 0, .slice none 0 0] 24)).al (.cells #[.int .i64 0, .int .i64 0, .slice none 0 0] 24))
  rw [World.size_alloc] at HQ
  have hgl := h.lt
  clear hl h
  have e40 : ((tx l p false).toList == [40]) = false := lit_false (fun (e : tx l p false = ⟨#[40]⟩) => by
    rw [tk_tx (by decide), decide_eq_false_iff_not] at ht
    exact ht e)
  have HWE : Hid (∀ k : Nat, 1 ≤ k → k < 15 → arity (k : Int) < 2 → ((tx l p false).toList == (wordB k).toList) = false) := Lib.hid fun k h1 h2 h3 => str_false (fun e => by
    have := (wordP_un ⟨k, h2⟩).2 ⟨(mem_unK ⟨k, h2⟩).2 ⟨h1, h3⟩, e⟩
    rw [hw] at this
    cases this)
  clear ht hw
  generalize tx l p false = s at *
  go_enter Tryd.func34, Tryd.ntmps34
  go_upto_region 2 with fail
  generalize (w.alloc (.cells #[.int .i64 0, .int .i64 0, .slice none 0 0] 24)).alloc (.cells #[.int .i64 0, .int .i64 0, .slice none 0 0] 24) = W0 at *
  go_wp2_with fail
  refine (HTX.out _ HB.out).mono ?_
  rintro r w1 ⟨rfl, hb⟩
  have HX := Lib.hid hb
  clear hb
  go_wp2
  go_loopw [9] (fun t wr => ∃ k : Nat, 1 ≤ k ∧ k ≤ 15 ∧ t = .int .i64 k ∧ Hid (Bel W0 wr)) (fun t _ => 15 - (intOf t).toNat)
  case atStart => exact ⟨1, by omega, by omega, rfl, HX⟩
  case round =>
    obtain ⟨k, hk1, hk, rfl, HY⟩ := hrel
    clear HX
    by_cases hlt : k < 15
    · have hd : decide ((k : Int) ≤ 14) = true := decide_eq_true (by omega)
      have HG := Lib.hid (askArgs_any (k : Int))
      have HW := Lib.hid (askWord_any k (by omega))
      go_wp2_with fail
      refine (HG.out _).mono ?_
      rintro r w2 ⟨rfl, rfl⟩
      by_cases ha : arity (k : Int) < 2
      · have hd2 : decide (arity (k : Int) < 2) = true := decide_eq_true ha
        have hwe := HWE.out k hk1 hlt ha
        clear ha
        generalize arity (k : Int) = a at *
        go_wp2_with fail
        refine (HTX.out _ (HB.out.tr HY.out)).mono ?_
        rintro r w3 ⟨rfl, hb3⟩
        replace HY := Lib.hid (HY.out.tr hb3)
        clear hb3
        go_wp2_with fail
        refine (HW.out _).mono ?_
        rintro r w4 ⟨rfl, hb4⟩
        replace HY := Lib.hid (HY.out.tr hb4)
        clear hb4
        go_wp2
        go_roundw
        case rel => exact ⟨k + 1, by omega, by omega, by go_num, HY⟩
        case measure => simp [intOf]; omega
      · have hd2 : decide (arity (k : Int) < 2) = false := decide_eq_false ha
        clear ha
        generalize arity (k : Int) = a at *
        go_wp2
        go_roundw
        case rel => exact ⟨k + 1, by omega, by omega, by go_num, HY⟩
        case measure => simp [intOf]; omega
    · obtain rfl : k = 15 := by omega
      have hd : decide (((15 : Nat) : Int) ≤ 14) = false := decide_eq_false (by omega)
      replace HP := Lib.hid (HP.out.keep (HB.out.tr HY.out))
      replace HQ := Lib.hid (HQ.out.keep HY.out)
      replace HR := Lib.hid (HR.out.keep HY.out)
      replace HB := Lib.hid (HB.out.tr HY.out)
      clear HTX HWE
      obtain ⟨y0, y1, y2, y3, -, yf⟩ := HP.out.go
      have q0 := HQ.out.cell (i := 0) (v := .int .i64 0) rfl
      have q1 := HQ.out.cell (i := 1) (v := .int .i64 0) rfl
      have q2 := HQ.out.cell (i := 2) (v := .slice none 0 0) rfl
      have r0 := HR.out.cell (i := 0) (v := .int .i64 0) rfl
      have r1 := HR.out.cell (i := 1) (v := .int .i64 0) rfl
      have r2 := HR.out.cell (i := 2) (v := .slice none 0 0) rfl
      have f0 := HR.out.frozen 0
      have f1 := HR.out.frozen 1
      have f2 := HR.out.frozen 2
      have hne : g ≠ w.heap.size := by omega
      have hne2 : w.heap.size ≠ g := by omega
      go_wp2
      have HRZ := Lib.hid (three_set (a := .int .i64 0) (b := .int .i64 0) (c := .slice none 0 0) (HR.out.far_ hne2 3 (.bool true)))
      have z0 := HRZ.out.cell (i := 0) (v := .int .i64 0) rfl
      have z1 := HRZ.out.cell (i := 1) (v := .int .i64 0) rfl
      have z2 := HRZ.out.cell (i := 2) (v := .slice none 0 0) rfl
      have HPB := Lib.hid (Rd.bad HP.out)
      refine bodyPost_ret (v := .agg #[.int .i64 0, .int .i64 0, .slice none 0 0]) (by simp [results, z0, z1, z2, go_sem]) rfl ⟨⟨0, 0, none, 0, 0, rfl⟩, ?_, ?_⟩
      · exact ((Blk.far_ HPB.out hne 0 _).far_ hne 1 _).far_ hne 2 _
      · exact grownNew (grownNew (grownNew (grownS_set (HB.out.grown _) 3 _) (Nat.le_refl _) _ _) (Nat.le_refl _) _ _) (Nat.le_refl _) _ _
end Go.Proofs.YtegknpffiaeohaaDoor

namespace Go.Proofs.YtegknpffiaeohaaDoor
open Go.RowKit

set_option maxRecDepth 20000 in
set_option maxHeartbeats 1000000 in
theorem ask_deep (l : List Tok) (lv : Value) (p E g : Nat) (w : World) (hl : Sl tokR w lv l) (hn : l.length ≤ 6000) (hp6 : p ≤ l.length) (h : Rd w g lv p E false) (ht : tk l p lparB = true) :
    Calls Tryd.prog 34 #[.pointer (some ⟨g, 0, none⟩), .int .i64 60] w fun r w' => (∃ k n A m c, r = .returned (.agg #[.int .i64 k, .int .i64 n, .slice A m c])) ∧ Rd w' g lv p E true ∧ w.grownBy w' (some g) := by
  have HTX := Lib.hid (fun W (hb : Bel w W) => text_any l lv p E g false W (hl.keep hb) hn hp6 (h.keep hb))
  have htx : tx l p false = lparB := by
    rw [tk_tx (by decide)] at ht
    exact of_decide_eq_true ht
  rw [htx] at HTX
  have HP := Lib.hid h
  have HQ := Lib.hid (Blk.new (w.alloc (.cells #[.int .i64 0, .int .i64 0, .slice none 0 0] 24)) 24 #[.int .i64 0, .int .i64 0, .slice none 0 0])
  have HR := Lib.hid ((Blk.new w 24 #[.int .i64 0, .int .i64 0, .slice none 0 0]).keep ((Bel.rfl_ _).al (.cells #[.int .i64 0, .int .i64 0, .slice none 0 0] 24)))
  have HB := Lib.hid (((Bel.rfl_ w).al (.cells #[.int .i64 0, .int .i64 0, .slice none 0 0] 24)).al (.cells #[.int .i64 0, .int .i64 0, .slice none 0 0] 24))
  rw [World.size_alloc] at HQ
  have hgl := h.lt
  have e40 : (lparB.toList == [40]) = true := lit_true rfl
  clear hl h ht htx
  generalize lparB = s at *
  go_enter Tryd.func34, Tryd.ntmps34
  go_upto_region 2 with fail
  generalize (w.alloc (.cells #[.int .i64 0, .int .i64 0, .slice none 0 0] 24)).alloc (.cells #[.int .i64 0, .int .i64 0, .slice none 0 0] 24) = W0 at *
  go_wp2_with fail
  refine (HTX.out _ HB.out).mono ?_
  rintro r w1 ⟨rfl, hb⟩
  replace HP := Lib.hid (HP.out.keep (HB.out.tr hb))
  replace HQ := Lib.hid (HQ.out.keep hb)
  replace HR := Lib.hid (HR.out.keep hb)
  replace HB := Lib.hid (HB.out.tr hb)
  clear hb HTX
  obtain ⟨y0, y1, y2, y3, -, yf⟩ := HP.out.go
  have q0 := HQ.out.cell (i := 0) (v := .int .i64 0) rfl
  have q1 := HQ.out.cell (i := 1) (v := .int .i64 0) rfl
  have q2 := HQ.out.cell (i := 2) (v := .slice none 0 0) rfl
  have r0 := HR.out.cell (i := 0) (v := .int .i64 0) rfl
  have r1 := HR.out.cell (i := 1) (v := .int .i64 0) rfl
  have r2 := HR.out.cell (i := 2) (v := .slice none 0 0) rfl
  have f0 := HR.out.frozen 0
  have f1 := HR.out.frozen 1
  have f2 := HR.out.frozen 2
  have hne : g ≠ w.heap.size := by omega
  have hne2 : w.heap.size ≠ g := by omega
  go_wp2
  have HRZ := Lib.hid (three_set (a := .int .i64 0) (b := .int .i64 0) (c := .slice none 0 0) (HR.out.far_ hne2 3 (.bool true)))
  have z0 := HRZ.out.cell (i := 0) (v := .int .i64 0) rfl
  have z1 := HRZ.out.cell (i := 1) (v := .int .i64 0) rfl
  have z2 := HRZ.out.cell (i := 2) (v := .slice none 0 0) rfl
  have HPB := Lib.hid (Rd.bad HP.out)
  refine bodyPost_ret (v := .agg #[.int .i64 0, .int .i64 0, .slice none 0 0]) (by simp [results, z0, z1, z2, go_sem]) rfl ⟨⟨0, 0, none, 0, 0, rfl⟩, ?_, ?_⟩
  · exact ((Blk.far_ HPB.out hne 0 _).far_ hne 1 _).far_ hne 2 _
  · exact grownNew (grownNew (grownNew (grownS_set (HB.out.grown _) 3 _) (Nat.le_refl _) _ _) (Nat.le_refl _) _ _) (Nat.le_refl _) _ _
end Go.Proofs.YtegknpffiaeohaaDoor

namespace Go.Proofs.YtegknpffiaeohaaDoor
open Go.RowKit

/-- a query and where it goes on; or a reader that has failed, and where -/
def RdRes (w : World) (g : Nat) (lv : Value) (E : Nat) (R : PR Ask) (r : Ending) (w' : World) : Prop :=
  w.grownBy w' (some g) ∧ match R with
  | .ok q p => Rd w' g lv p E false ∧ ∃ A c, r = .returned (.agg #[.int .i64 q.kind, .int .i64 q.n, .slice A q.args.length c]) ∧ Sl askR (low w.heap.size w') (.slice A q.args.length c) q.args
  | .fail p => Rd w' g lv p E true ∧ ∃ k n A m c, r = .returned (.agg #[.int .i64 k, .int .i64 n, .slice A m c])
theorem RdRes.bad {w : World} {g : Nat} {lv : Value} {E x : Nat} {R : PR Ask} {r : Ending} {w' : World} (h : RdRes w g lv E R r w') (hR : R = .fail x) :
    w.grownBy w' (some g) ∧ Rd w' g lv x E true ∧ ∃ k n A m c, r = .returned (.agg #[.int .i64 k, .int .i64 n, .slice A m c]) := by
  subst hR
  exact h
theorem RdRes.good {w : World} {g : Nat} {lv : Value} {E p : Nat} {q : Ask} {R : PR Ask} {r : Ending} {w' : World} (h : RdRes w g lv E R r w') (hR : R = .ok q p) :
    w.grownBy w' (some g) ∧ Rd w' g lv p E false ∧ ∃ A c, r = .returned (.agg #[.int .i64 q.kind, .int .i64 q.n, .slice A q.args.length c]) ∧ Sl askR (low w.heap.size w') (.slice A q.args.length c) q.args := by
  subst hR
  exact h
theorem RdRes.mkBad {w : World} {g : Nat} {lv : Value} {E x : Nat} {R : PR Ask} {r : Ending} {w' : World} (hR : R = .fail x) (hr : ∃ k n A m c, r = .returned (.agg #[.int .i64 k, .int .i64 n, .slice A m c])) (hp : Rd w' g lv x E true) (hg : w.grownBy w' (some g)) : RdRes w g lv E R r w' := by
  subst hR
  exact ⟨hg, hp, hr⟩
theorem RdRes.mkGood {w : World} {g : Nat} {lv : Value} {E p : Nat} {k n : Int} {args : List Ask} {R : PR Ask} {A : Option Addr} {c : Nat} {w' : World} (hR : R = .ok (.mk k n args) p) (h : w.grownBy w' (some g)) (hv : Sl askR (low w.heap.size w') (.slice A args.length c) args) (hp : Rd w' g lv p E false) :
    RdRes w g lv E R (.returned (.agg #[.int .i64 k, .int .i64 n, .slice A args.length c])) w' := by
  subst hR
  exact ⟨h, hp, A, c, rfl, hv⟩
end Go.Proofs.YtegknpffiaeohaaDoor

namespace Go.Proofs.YtegknpffiaeohaaDoor
open Go.RowKit

/-- where the reader stands, and whether it has failed, when this text was needed -/
def needS (l : List Tok) (p : Nat) (f : Bool) (s : ByteArray) : Nat × Bool := if f then (p, true) else if tx l p false = s then (p + 1, false) else (p, true)
theorem needS_yes {l : List Tok} {p : Nat} {s : ByteArray} (h : tx l p false = s) : needS l p false s = (p + 1, false) := by
  unfold needS
  rw [if_neg (by decide), if_pos h]
theorem needS_no {l : List Tok} {p : Nat} {s : ByteArray} (h : tx l p false ≠ s) : needS l p false s = (p, true) := by
  unfold needS
  rw [if_neg (by decide), if_neg h]
theorem tx_lt {l : List Tok} {p : Nat} {s : ByteArray} (hs : s ≠ emp) (h : tx l p false = s) : p < l.length := by
  refine tk_lt (s := s) ?_
  rw [tk_tx hs]
  exact decide_eq_true h
theorem need_any (l : List Tok) (lv : Value) (p E g : Nat) (f : Bool) (s : ByteArray) (w : World) (hl : Sl tokR w lv l) (hn : l.length ≤ 6000) (hp6 : p ≤ l.length) (h : Rd w g lv p E f) :
    Calls Tryd.prog 50 #[.pointer (some ⟨g, 0, none⟩), .string s] w fun r w' => (∃ v, r = .returned v) ∧ Rd w' g lv (needS l p f s).1 E (needS l p f s).2 ∧ w.grownBy w' (some g) := by
  cases f with
  | true =>
    refine (need_bad lv p E g s w h).mono ?_
    rintro r w' ⟨h1, h2⟩
    exact ⟨h1, h.keep h2, h2.grown _⟩
  | false =>
    unfold needS
    rw [if_neg (by decide)]
    by_cases hs : tx l p false = s
    · rw [if_pos hs]
      exact need_yes l lv p E g s w hl hn hp6 h hs
    · rw [if_neg hs]
      exact need_no l lv p E g s w hl hn hp6 h hs

/-- what Ask hands back from any state of the reader -/
def RdAns (l : List Tok) (w : World) (g : Nat) (lv : Value) (E p : Nat) (f : Bool) (R : PR Ask) (r : Ending) (w' : World) : Prop :=
  ∃ (p' : Nat) (f' : Bool) (k n : Int) (A : Option Addr) (m c : Nat), r = .returned (.agg #[.int .i64 k, .int .i64 n, .slice A m c]) ∧ w.grownBy w' (some g) ∧ Rd w' g lv p' E f' ∧ p' ≤ l.length ∧
    (f' = true → (f = true ∧ p' = p) ∨ (f = false ∧ R = .fail p')) ∧ (f' = false → f = false ∧ ∃ args, m = args.length ∧ R = .ok (.mk k n args) p' ∧ Sl askR (low w.heap.size w') (.slice A m c) args)
theorem RdRes.ans {l : List Tok} {w : World} {g : Nat} {lv : Value} {E p : Nat} {R : PR Ask} {r : Ending} {w' : World} (h : RdRes w g lv E R r w') (hR : Within l.length R) : RdAns l w g lv E p false R r w' := by
  cases R with
  | ok q p' =>
    obtain ⟨h1, h2, A, c, h3, h4⟩ := h.good rfl
    cases q with
    | mk k n args => exact ⟨p', false, k, n, A, args.length, c, h3, h1, h2, hR.1 _ _ rfl, (fun e => by cases e), fun _ => ⟨rfl, args, rfl, rfl, h4⟩⟩
  | fail x =>
    obtain ⟨h1, h2, k, n, A, m, c, h3⟩ := h.bad rfl
    exact ⟨x, true, k, n, A, m, c, h3, h1, h2, hR.2 _ rfl, (fun _ => Or.inr ⟨rfl, rfl⟩), fun e => by cases e⟩
/-- the document's Ask, from any state -/
theorem ask_state (l : List Tok) (lv : Value) (p E g : Nat) (f : Bool) (D : Int) (R : PR Ask) (w : World) (hl : Sl tokR w lv l) (hn : l.length ≤ 6000) (hp6 : p ≤ l.length) (h : Rd w g lv p E f) (hR : Within l.length R)
    (hrec : f = false → Calls Tryd.prog 34 #[.pointer (some ⟨g, 0, none⟩), .int .i64 D] w fun r w' => RdRes w g lv E R r w') :
    Calls Tryd.prog 34 #[.pointer (some ⟨g, 0, none⟩), .int .i64 D] w fun r w' => RdAns l w g lv E p f R r w' := by
  cases f with
  | true =>
    refine (ask_bad l lv p E g D w hl hn hp6 h).mono ?_
    rintro r w' ⟨⟨k, n, A, m, c, rfl⟩, h1, h2⟩
    exact ⟨p, true, k, n, A, m, c, rfl, h2, h1, hp6, (fun _ => Or.inl ⟨rfl, rfl⟩), fun e => by cases e⟩
  | false =>
    refine (hrec rfl).mono ?_
    intro r w' h1
    exact h1.ans hR
/-- the binary word that stands here, if the reader has not failed -/
def wordS (l : List Tok) (p : Nat) (f : Bool) : Option Nat := if f then none else wordP l binK p
theorem wordS_yes {l : List Tok} {p k : Nat} {f : Bool} (h8 : 8 ≤ k) (h13 : k < 14) (ha : arity (k : Int) = 2) (hs : tx l p f = wordB k) : wordS l p f = some k := by
  cases f with
  | true => exact absurd hs.symm (word_emp ⟨k, by omega⟩ (by show 1 ≤ k; omega))
  | false =>
    unfold wordS
    rw [if_neg (by decide)]
    exact (wordP_bin ⟨k, by omega⟩).2 ⟨(mem_binK ⟨k, by omega⟩).2 ⟨h8, by show k ≤ 13; omega, ha⟩, hs⟩
theorem wordS_some {l : List Tok} {p k : Nat} {f : Bool} (h : wordS l p f = some k) : f = false ∧ 8 ≤ k ∧ k ≤ 13 ∧ arity (k : Int) = 2 ∧ tx l p f = wordB k ∧ wordP l binK p = some k := by
  cases f with
  | true => cases h
  | false =>
    unfold wordS at h
    rw [if_neg (by decide)] at h
    have hk : k < 15 := by
      have := (wordP_some h).1
      simp only [binK, List.mem_cons, List.not_mem_nil, or_false] at this
      omega
    obtain ⟨h1, h2⟩ := (wordP_bin ⟨k, hk⟩).1 h
    obtain ⟨h3, h4, h5⟩ := (mem_binK ⟨k, hk⟩).1 h1
    exact ⟨rfl, h3, h4, h5, h2, h⟩
theorem wordS_upTo {l : List Tok} {p : Nat} {f : Bool} : upTo (wordS l p f) 8 = 0 ∧ upTo (wordS l p f) 14 = match wordS l p f with
    | some k => (k : Int)
    | none => 0 := by
  cases h : wordS l p f with
  | none => exact ⟨rfl, rfl⟩
  | some k =>
    obtain ⟨-, h1, h2, -⟩ := wordS_some h
    unfold upTo
    simp only []
    exact ⟨if_neg (by omega), if_pos (by omega)⟩
end Go.Proofs.YtegknpffiaeohaaDoor

namespace Go.Proofs.YtegknpffiaeohaaDoor
open Go.RowKit

/-- the reader, the query that is built, the result's cell; and what lies behind stays as it was in X -/
def AskS (w X W : World) (g : Nat) (lv : Value) (E p : Nat) (f : Bool) (k n : Int) (v : Value) : Prop :=
  Rd W g lv p E f ∧ Blk W (w.heap.size + 1) 24 #[.int .i64 k, .int .i64 n, v] ∧ Blk W w.heap.size 24 #[.int .i64 0, .int .i64 0, .slice none 0 0] ∧ w.grownBy W (some g) ∧ g < w.heap.size ∧ w.heap.size + 2 ≤ W.heap.size ∧ Bel (low (w.heap.size + 2) X) (low (w.heap.size + 2) W)
section
variable {w X W W' : World} {g : Nat} {lv : Value} {E p : Nat} {f : Bool} {k n : Int} {v : Value}
theorem AskS.start (h : Rd w g lv p E f) : AskS w ((w.alloc (.cells #[.int .i64 0, .int .i64 0, .slice none 0 0] 24)).alloc (.cells #[.int .i64 0, .int .i64 0, .slice none 0 0] 24)) ((w.alloc (.cells #[.int .i64 0, .int .i64 0, .slice none 0 0] 24)).alloc (.cells #[.int .i64 0, .int .i64 0, .slice none 0 0] 24)) g lv E p f 0 0 (.slice none 0 0) := by
  have hb := ((Bel.rfl_ w).al (.cells #[.int .i64 0, .int .i64 0, .slice none 0 0] 24)).al (.cells #[.int .i64 0, .int .i64 0, .slice none 0 0] 24)
  have hq := Blk.new (w.alloc (.cells #[.int .i64 0, .int .i64 0, .slice none 0 0] 24)) 24 #[.int .i64 0, .int .i64 0, .slice none 0 0]
  rw [World.size_alloc] at hq
  exact ⟨h.keep hb, hq, (Blk.new w 24 #[.int .i64 0, .int .i64 0, .slice none 0 0]).keep ((Bel.rfl_ _).al (.cells #[.int .i64 0, .int .i64 0, .slice none 0 0] 24)), hb.grown _, h.lt, by simp, Bel.rfl_ _⟩
theorem AskS.keep (h : AskS w X W g lv E p f k n v) (hb : Bel W W') : AskS w X W' g lv E p f k n v := by
  obtain ⟨h1, h2, h3, h4, h5, h6, h7⟩ := h
  exact ⟨h1.keep hb, h2.keep hb, h3.keep hb, h4.trans (hb.grown _), h5, Nat.le_trans h6 hb.size, h7.tr (low_belB hb)⟩
theorem AskS.grown {p' : Nat} {f' : Bool} (h : AskS w X W g lv E p f k n v) (hg : W.grownBy W' (some g)) (hp : Rd W' g lv p' E f') : AskS w X W' g lv E p' f' k n v := by
  obtain ⟨h1, h2, h3, h4, h5, h6, h7⟩ := h
  exact ⟨hp, h2.grown hg (by simp; omega), h3.grown hg (by simp; omega), h4.trans hg, h5, Nat.le_trans h6 hg.size, h7.tr (low_grown hg (by omega))⟩
theorem AskS.bad (h : AskS w X W g lv E p f k n v) : AskS w X (W.setCell ⟨g, 3, none⟩ (.bool true)) g lv E p true k n v := by
  have := h.1
  exact h.grown (grownS_one W g 3 (.bool true)) this.bad
theorem AskS.fresh (h : AskS w X W g lv E p f k n v) : AskS w W W g lv E p f k n v := by
  obtain ⟨h1, h2, h3, h4, h5, h6, h7⟩ := h
  exact ⟨h1, h2, h3, h4, h5, h6, Bel.rfl_ _⟩
theorem AskS.lt (h : AskS w X W g lv E p f k n v) : g < w.heap.size := h.2.2.2.2.1
theorem AskS.size (h : AskS w X W g lv E p f k n v) : w.heap.size + 2 ≤ W.heap.size := h.2.2.2.2.2.1
theorem AskS.grew (h : AskS w X W g lv E p f k n v) : w.grownBy W (some g) := h.2.2.2.1
theorem AskS.low_ (h : AskS w X W g lv E p f k n v) : Bel (low (w.heap.size + 2) X) (low (w.heap.size + 2) W) := h.2.2.2.2.2.2
theorem AskS.put_ {k' n' : Int} {v' : Value} (h : AskS w X W g lv E p f k n v) (i : Nat) (u : Value) (hu : (#[Value.int .i64 k, .int .i64 n, v]).setIfInBounds i u = #[.int .i64 k', .int .i64 n', v']) : AskS w X (W.setCell ⟨w.heap.size + 1, i, none⟩ u) g lv E p f k' n' v' := by
  obtain ⟨h1, h2, h3, h4, h5, h6, h7⟩ := h
  have hq := h2.set_ i u
  rw [hu] at hq
  refine ⟨Blk.far_ h1 (by omega) i u, hq, Blk.far_ h3 (by omega) i u, grownNew h4 (by omega) i u, h5, ?_, h7.tr (low_set W u (by omega))⟩
  simpa using h6
theorem AskS.put0 (h : AskS w X W g lv E p f k n v) (x : Int) : AskS w X (W.setCell ⟨w.heap.size + 1, 0, none⟩ (.int .i64 x)) g lv E p f x n v := h.put_ 0 _ rfl
theorem AskS.put1 (h : AskS w X W g lv E p f k n v) (x : Int) : AskS w X (W.setCell ⟨w.heap.size + 1, 1, none⟩ (.int .i64 x)) g lv E p f k x v := h.put_ 1 _ rfl
theorem AskS.put2 (h : AskS w X W g lv E p f k n v) (x : Value) : AskS w X (W.setCell ⟨w.heap.size + 1, 2, none⟩ x) g lv E p f k n x := h.put_ 2 _ rfl
theorem AskS.go (h : AskS w X W g lv E p f k n v) : W.cell? ⟨g, 3, none⟩ = some (.bool f) ∧ W.frozen? ⟨g, 3, none⟩ = false ∧ W.cell? ⟨w.heap.size + 1, 0, none⟩ = some (.int .i64 k) ∧ W.cell? ⟨w.heap.size + 1, 1, none⟩ = some (.int .i64 n) ∧ W.cell? ⟨w.heap.size + 1, 2, none⟩ = some v ∧
    W.frozen? ⟨w.heap.size + 1, 0, none⟩ = false ∧ W.frozen? ⟨w.heap.size + 1, 1, none⟩ = false ∧ W.frozen? ⟨w.heap.size + 1, 2, none⟩ = false :=
  ⟨h.1.go.2.2.2.1, h.1.go.2.2.2.2.2, h.2.1.cell rfl, h.2.1.cell rfl, h.2.1.cell rfl, h.2.1.frozen 0, h.2.1.frozen 1, h.2.1.frozen 2⟩
theorem AskS.res (h : AskS w X W g lv E p f k n v) : W.cell? ⟨w.heap.size, 0, none⟩ = some (.int .i64 0) ∧ W.cell? ⟨w.heap.size, 1, none⟩ = some (.int .i64 0) ∧ W.cell? ⟨w.heap.size, 2, none⟩ = some (.slice none 0 0) ∧
    W.frozen? ⟨w.heap.size, 0, none⟩ = false ∧ W.frozen? ⟨w.heap.size, 1, none⟩ = false ∧ W.frozen? ⟨w.heap.size, 2, none⟩ = false :=
  ⟨h.2.2.1.cell rfl, h.2.2.1.cell rfl, h.2.2.1.cell rfl, h.2.2.1.frozen 0, h.2.2.1.frozen 1, h.2.2.1.frozen 2⟩
/-- the world behind the last three stores -/
def resW (w W : World) (k n : Int) (v : Value) : World := ((W.setCell ⟨w.heap.size, 0, none⟩ (.int .i64 k)).setCell ⟨w.heap.size, 1, none⟩ (.int .i64 n)).setCell ⟨w.heap.size, 2, none⟩ v
theorem AskS.done (h : AskS w X W g lv E p f k n v) : (resW w W k n v).cell? ⟨w.heap.size, 0, none⟩ = some (.int .i64 k) ∧ (resW w W k n v).cell? ⟨w.heap.size, 1, none⟩ = some (.int .i64 n) ∧ (resW w W k n v).cell? ⟨w.heap.size, 2, none⟩ = some v ∧
    Rd (resW w W k n v) g lv p E f ∧ w.grownBy (resW w W k n v) (some g) ∧ Bel (low (w.heap.size + 2) X) (low (w.heap.size + 2) (resW w W k n v)) := by
  obtain ⟨h1, h2, h3, h4, h5, h6, h7⟩ := h
  have hz := three_set (a := .int .i64 k) (b := .int .i64 n) (c := v) h3
  have hlt : w.heap.size < w.heap.size + 2 := by omega
  exact ⟨hz.cell rfl, hz.cell rfl, hz.cell rfl, ((Blk.far_ h1 (by omega) 0 _).far_ (by omega) 1 _).far_ (by omega) 2 _, grownNew (grownNew (grownNew h4 (Nat.le_refl _) _ _) (Nat.le_refl _) _ _) (Nat.le_refl _) _ _, ((h7.tr (low_set _ _ hlt)).tr (low_set _ _ hlt)).tr (low_set _ _ hlt)⟩
/-- a block that lies behind -/
theorem low_blk {B G : Nat} {t : TypeId} {cs : Array Value} (h : Blk W G t cs) (hG : B ≤ G) : Blk (low B W) G t cs := (low_ge hG).trans h
theorem low_unb {B G : Nat} {t : TypeId} {cs : Array Value} (h : Blk (low B W) G t cs) (hG : B ≤ G) : Blk W G t cs := (low_ge hG).symm.trans h
end
end Go.Proofs.YtegknpffiaeohaaDoor

namespace Go.Proofs.YtegknpffiaeohaaDoor
open Go.RowKit

/-- the number that stands here, where it goes on, whether it has failed -/
def numS (l : List Tok) (p : Nat) (f : Bool) : Int × Nat × Bool := if f then (0, p, true) else match numP l false p with
  | .ok n q => (n, q, false)
  | .fail x => (0, x, true)
theorem numP_yes {l : List Tok} {p : Nat} {t : Tok} (h : l[p]? = some t) (hk : t.kind = 2) : numP l false p = .ok (numB t.text) (p + 1) := by
  unfold numP
  rw [h]
  simp [hk]
theorem numP_no {l : List Tok} {p : Nat} (h : ∀ t, l[p]? = some t → t.kind ≠ 2) : numP l false p = .fail p := by
  unfold numP
  cases hx : l[p]? with
  | none => rfl
  | some t => simp [h t hx]
theorem number_state (l : List Tok) (lv : Value) (p E g : Nat) (f : Bool) (w : World) (hl : Sl tokR w lv l) (hn : l.length ≤ 6000) (hok : ∀ t ∈ l, TokOk t) (hp6 : p ≤ l.length) (h : Rd w g lv p E f) :
    Calls Tryd.prog 51 #[.pointer (some ⟨g, 0, none⟩)] w fun r w' => r = .returned (.int .i64 (numS l p f).1) ∧ Rd w' g lv (numS l p f).2.1 E (numS l p f).2.2 ∧ w.grownBy w' (some g) := by
  cases f with
  | true => exact number_no l lv p E g true w hl hn hok hp6 h (Or.inl rfl)
  | false =>
    unfold numS
    rw [if_neg (by decide)]
    by_cases hk : ∃ t, l[p]? = some t ∧ t.kind = 2
    · obtain ⟨t, hx, h2⟩ := hk
      rw [numP_yes hx h2]
      exact number_yes l lv p E g t w hl hn h hx ((hok t (List.mem_of_getElem? hx)).1 h2)
    · have hno : ∀ t, l[p]? = some t → t.kind ≠ 2 := fun t hx h2 => hk ⟨t, hx, h2⟩
      rw [numP_no hno]
      exact number_no l lv p E g false w hl hn hok hp6 h (Or.inr hno)
theorem numS_facts {l : List Tok} {p : Nat} {f : Bool} (hok : ∀ t ∈ l, TokOk t) (hp : p ≤ l.length) : (0 ≤ (numS l p f).1 ∧ (numS l p f).1 ≤ 9999999) ∧ (numS l p f).2.1 ≤ l.length ∧ (f = true → numS l p f = (0, p, true)) ∧
    ((numS l p f).2.2 = true → f = true ∨ numP l false p = .fail (numS l p f).2.1) ∧ ((numS l p f).2.2 = false → f = false ∧ numP l false p = .ok (numS l p f).1 (numS l p f).2.1) := by
  cases f with
  | true => exact ⟨⟨Int.le_refl _, by show (0 : Int) ≤ 9999999; omega⟩, hp, (fun _ => rfl), (fun _ => Or.inl rfl), fun e => by cases e⟩
  | false =>
    unfold numS
    rw [if_neg (by decide)]
    by_cases hk : ∃ t, l[p]? = some t ∧ t.kind = 2
    · obtain ⟨t, hx, h2⟩ := hk
      rw [numP_yes hx h2]
      have := nF_bound ((hok t (List.mem_of_getElem? hx)).1 h2) t.text.size
      rw [nF_end] at this
      have hp := (List.getElem?_eq_some_iff.1 hx).1
      exact ⟨this, hp, (fun e => by cases e), (fun e => by cases e), fun _ => ⟨rfl, rfl⟩⟩
    · have hno : ∀ t, l[p]? = some t → t.kind ≠ 2 := fun t hx h2 => hk ⟨t, hx, h2⟩
      rw [numP_no hno]
      exact ⟨⟨Int.le_refl _, by show (0 : Int) ≤ 9999999; omega⟩, hp, (fun e => by cases e), (fun _ => Or.inr rfl), fun e => by cases e⟩
/-- with a sign ahead: nothing but 0 is told otherwise -/
theorem numP_sign {l : List Tok} {p : Nat} : numP l true p = if tx l p false = zeroB then .fail p else match numP l false p with
    | .ok n q => .ok (-n) q
    | .fail x => .fail x := by
  have e : tx l p false = match l[p]? with
      | some t => t.text
      | none => emp := by
    unfold tx
    rw [if_neg (by decide)]
    all_goals (cases l[p]? <;> rfl)
  rw [e]
  unfold numP
  cases hx : l[p]? with
  | none =>
    simp only []
    rw [if_neg (show ¬ emp = zeroB by decide)]
  | some t =>
    simp only []
    by_cases hk : t.kind = 2 <;> by_cases hz : t.text = zeroB <;> simp [hk, hz]
theorem un_word {l : List Tok} {p k : Nat} (h : wordP l unK p = some k) : k ∈ unK ∧ 1 ≤ k ∧ k ≤ 14 ∧ tx l p false = wordB k ∧ p < l.length := by
  have h1 := (wordP_some h).1
  have hk : k < 15 := by
    simp only [unK, List.mem_cons, List.not_mem_nil, or_false] at h1
    omega
  have h2 := (wordP_un ⟨k, hk⟩).1 h
  have h3 := (mem_unK ⟨k, hk⟩).1 h1
  exact ⟨h1, h3.1, by omega, h2.2, tx_lt (word_emp ⟨k, hk⟩ h3.1) h2.2⟩
theorem leaf_res {w : World} {g : Nat} {lv : Value} {E p : Nat} {f : Bool} {k n : Int} {R : PR Ask} {w' : World} (h1 : f = true → R = .fail p) (h2 : f = false → R = .ok (.mk k n []) p) (hp : Rd w' g lv p E f) (hg : w.grownBy w' (some g)) :
    RdRes w g lv E R (.returned (.agg #[.int .i64 k, .int .i64 n, .slice none 0 0])) w' := by
  cases f with
  | true => exact .mkBad (h1 rfl) ⟨_, _, _, _, _, rfl⟩ hp hg
  | false => exact .mkGood (args := []) (h2 rfl) hg (Sl.nil_ _ _) hp
end Go.Proofs.YtegknpffiaeohaaDoor
