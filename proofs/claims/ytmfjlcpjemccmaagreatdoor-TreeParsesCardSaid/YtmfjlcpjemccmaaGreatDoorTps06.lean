/- What the document's reader of an expression hands back; its plain words. Each lemma states its own conditions. -/
import Derived.Test.YtmfjlcpjemccmaaGreatDoorTps05
namespace Go.Proofs.YtmfjlcpjemccmaaGreatDoor
open Go.RowKit
/-- what Expr hands back -/
def ExprRes (w : World) (g : Nat) (lv : Value) (E : Nat) (x : TE × RS) (r : Ending) (w' : World) : Prop :=
 w.grownBy w' (some g) ∧ Rd w' g lv x.2.1 E x.2.2 ∧ ∃ A c, r = .returned (.agg #[.int .i64 x.1.kind, .int .i64 x.1.at_, .int .i64 x.1.n, .string x.1.name, .slice A x.1.args.length c]) ∧ x.1.name.size ≤ maxLen ∧ Sl teR (low w.heap.size w') (.slice A x.1.args.length c) x.1.args
theorem ExprRes.mk {w : World} {g : Nat} {lv : Value} {E : Nat} {x : TE × RS} {w' : World} {k a n : Int} {s : ByteArray} {args : List TE} {q : RS} {A : Option Addr} {c : Nat} (hx : x = (.mk k a n s args, q)) (hg : w.grownBy w' (some g)) (hr : Rd w' g lv q.1 E q.2) (hs : s.size ≤ maxLen) (hl : Sl teR (low w.heap.size w') (.slice A args.length c) args) :
  ExprRes w g lv E x (.returned (.agg #[.int .i64 k, .int .i64 a, .int .i64 n, .string s, .slice A args.length c])) w' := by
 subst hx
 exact ⟨hg, hr, A, c, rfl, hs, hl⟩
theorem teR_more : More teR := by
 intro X Y hc cs x (h : TER X x cs)
 show TER Y x cs
 induction h with
 | mk k a n s args v f hs hv hf ih =>
  obtain ⟨A, c, h1, h2, h3, h4⟩ := hv
  exact .mk k a n s args v f hs ⟨A, c, h1, h2, h3, fun hp => by
   obtain ⟨b, o, hA, hx⟩ := h4 hp
   exact ⟨b, o, hA, fun i hi j u hu => hc _ _ _ (hx i hi j u hu)⟩⟩ ih
section
variable {B : Nat} {w : World}
/-- a new row of one expression, of two -/
theorem te_one {v : Value} {G : Nat} {t : TypeId} {a : TE} (hB : Blk w G t #[.int .i64 a.kind, .int .i64 a.at_, .int .i64 a.n, .string a.name, v]) (hG : B ≤ G) (hs : a.name.size ≤ maxLen) (hv : Sl teR (low B w) v a.args) : Sl teR (low B w) (.slice (some ⟨G, 0, none⟩) 1 1) [a] := by
 refine ⟨some ⟨G, 0, none⟩, 1, rfl, Nat.le_refl _, ⟨by simp [maxLen], fun h => by cases h⟩, fun _ => ⟨G, 0, rfl, fun i x hx => ?_⟩⟩
 cases i with
 | zero =>
  obtain rfl : a = x := by simpa using hx
  obtain ⟨k', a', n', s', args⟩ := a
  refine ⟨_, TER.shut hs hv, low_to (fun j u hu => hB.cell (i := 0 + 0 * teR.size + j) ?_) hG⟩
  simpa [TE.kind, TE.at_, TE.n, TE.name] using hu
 | succ i => simp at hx
theorem te_two {v u : Value} {G : Nat} {t : TypeId} {a b : TE} (hB : Blk w G t #[.int .i64 a.kind, .int .i64 a.at_, .int .i64 a.n, .string a.name, v, .int .i64 b.kind, .int .i64 b.at_, .int .i64 b.n, .string b.name, u]) (hG : B ≤ G) (hsa : a.name.size ≤ maxLen) (hsb : b.name.size ≤ maxLen)
  (hv : Sl teR (low B w) v a.args) (hu : Sl teR (low B w) u b.args) : Sl teR (low B w) (.slice (some ⟨G, 0, none⟩) 2 2) [a, b] := by
 refine ⟨some ⟨G, 0, none⟩, 2, rfl, Nat.le_refl _, ⟨by simp [maxLen], fun h => by cases h⟩, fun _ => ⟨G, 0, rfl, fun i x hx => ?_⟩⟩
 match i, hx with
 | 0, hx =>
  obtain rfl : a = x := by simpa using hx
  obtain ⟨k', a', n', s', args⟩ := a
  refine ⟨_, TER.shut hsa hv, low_to (fun j u' hu' => hB.cell (i := 0 + 0 * teR.size + j) ?_) hG⟩
  match j, hu' with
  | 0, h | 1, h | 2, h | 3, h | 4, h => simpa [TE.kind, TE.at_, TE.n, TE.name] using h
  | j + 5, h => simp at h
 | 1, hx =>
  obtain rfl : b = x := by simpa using hx
  obtain ⟨k', a', n', s', args⟩ := b
  refine ⟨_, TER.shut hsb hu, low_to (fun j u' hu' => hB.cell (i := 0 + 1 * teR.size + j) ?_) hG⟩
  match j, hu' with
  | 0, h | 1, h | 2, h | 3, h | 4, h => simpa [teR, TE.kind, TE.at_, TE.n, TE.name] using h
  | j + 5, h => simp at h
 | i + 2, hx => simp at hx
end
set_option maxRecDepth 20000 in
/-- Text draws alone -/
theorem text_q (l : List Tok) (lv : Value) (p E g : Nat) (f : Bool) (w : World) (hl : Sl tokR w lv l) (hn : l.length ≤ 6000) (hp6 : p ≤ l.length) (h : Rd w g lv p E f) :
  Calls Tryz.prog 52 #[.pointer (some ⟨g, 0, none⟩), .int .i64 0] w fun r w' => r = .returned (.string (tx l p f)) ∧ ∃ m, w' = w.drewN m := by
 obtain ⟨y0, y1, y2, y3, -, -⟩ := h.go
 obtain ⟨A, c, rfl, _, _, hA⟩ := hl
 cases f with
 | true =>
  clear hA h
  go_enter Tryz.func52, Tryz.ntmps52
  go_wp2
  go_quiet (fail)
  go_wp2
  go_ret
  exact ⟨rfl, _, rfl⟩
 | false =>
  by_cases hp : p < l.length
  ·obtain ⟨t, hx⟩ : ∃ t, l[p]? = some t := ⟨_, List.getElem?_eq_getElem hp⟩
   have HT : Hid (tx l p false = t.text) := Hi_ (by unfold tx; rw [if_neg (by decide), hx])
   obtain ⟨b, o, rfl, hcs⟩ := hA (by omega)
   obtain ⟨x0, x1, x2⟩ := tokR.cells hcs hx
   have d1 : decide (l.length ≤ p) = false := decide_eq_false (by omega)
   clear hcs hx hA h x0 x1
   go_enter Tryz.func52, Tryz.ntmps52
   go_wp2
   go_quiet (fail)
   go_wp2
   go_quiet (fail)
   go_wp2
   go_ret
   exact ⟨by rw [HT.out]; rfl, _, by rw [World.drewN_drewN]⟩
  ·have HT : Hid (tx l p false = emp) := Hi_ (by unfold tx; rw [if_neg (by decide), List.getElem?_eq_none (by omega)])
   have d1 : decide (l.length ≤ p) = true := decide_eq_true (by omega)
   clear hA h
   go_enter Tryz.func52, Tryz.ntmps52
   go_wp2
   go_quiet (fail)
   go_wp2
   go_ret
   exact ⟨by rw [HT.out]; rfl, _, rfl⟩
/-- the operators differ -/
theorem op_ne : ∀ i j : Fin 7, opB i.val = opB j.val → i = j := by decide +kernel
theorem op_emp : ∀ i : Fin 7, opB i.val ≠ emp := by decide +kernel
theorem opD_some {l : List Tok} {r : RS} {i : Nat} (h : opD l r = some i) : i < 7 ∧ tx l r.1 r.2 = opB i := by
 unfold opD at h
 exact ⟨List.mem_range.1 (List.mem_of_find?_eq_some h), by have := List.find?_some h; simpa using this⟩
theorem opD_yes {l : List Tok} {r : RS} {i : Nat} (hi : i < 7) (h : tx l r.1 r.2 = opB i) : opD l r = some i := by
 cases ho : opD l r with
 | none =>
  unfold opD at ho
  rw [List.find?_eq_none] at ho
  have := ho i (List.mem_range.2 hi)
  rw [h] at this
  simp at this
 | some j =>
  obtain ⟨h1, h2⟩ := opD_some ho
  have := op_ne ⟨i, hi⟩ ⟨j, h1⟩ (h.symm.trans h2)
  rw [Fin.mk.injEq] at this
  rw [this]
/-- the kind found among the first operators -/
def opK (o : Option Nat) (k : Nat) : Int := match o with
 | some i => if i < k then 4 + (i : Int) else 0
 | none => 0
theorem opK_yes {o : Option Nat} {k : Nat} (h : o = some k) : opK o (k + 1) = 4 + (k : Int) := by
 subst h
 unfold opK
 simp only []
 rw [if_pos (by omega)]
theorem opK_no {o : Option Nat} {k : Nat} (h : o ≠ some k) : opK o (k + 1) = opK o k := by
 unfold opK
 cases o with
 | none => rfl
 | some i =>
  have : i ≠ k := fun e => h (by rw [e])
  simp only []
  by_cases hk : i < k
  ·rw [if_pos hk, if_pos (by omega)]
  ·rw [if_neg hk, if_neg (by omega)]
theorem opK_end {l : List Tok} {r : RS} : opK (opD l r) 7 = match opD l r with
  | none => 0
  | some i => 4 + (i : Int) := by
 cases h : opD l r with
 | none => rfl
 | some i =>
  unfold opK
  simp only []
  exact if_pos (opD_some h).1
theorem ops_cell {w : World} {G : Nat} {t : TypeId} (h : Blk w G t (opsL.map Value.string).toArray) {k : Nat} (hk : k < 7) : w.cell? ⟨G, k, none⟩ = some (.string (opB k)) := by
 refine Blk.cell h ?_
 unfold opB
 rw [List.getElem?_toArray, List.getElem?_map, List.getD_eq_getElem?_getD]
 have : k < opsL.length := hk
 rw [List.getElem?_eq_getElem this]
 rfl
section
variable {l : List Tok} {E d p : Nat} {f : Bool}
theorem exprD_deep (h : tx l p f = lparB) : exprD l E 0 (p, f) = (.mk 1 (place l E p) 0 emp [], (p, true)) := by
 unfold exprD
 rw [if_pos h]
theorem exprD_dash (h1 : tx l p f ≠ lparB) (h2 : tx l p f = dashB) : exprD l E d (p, f) = (.mk 1 (place l E p) (-(numD l (failD (decide (tx l (needD l dashB (p, f)).1 (needD l dashB (p, f)).2 = zeroB)) (needD l dashB (p, f)))).1) emp [], (numD l (failD (decide (tx l (needD l dashB (p, f)).1 (needD l dashB (p, f)).2 = zeroB)) (needD l dashB (p, f)))).2) := by
 unfold exprD
 rw [if_neg h1, if_pos h2]
theorem exprD_num (h1 : tx l p f ≠ lparB) (h2 : tx l p f ≠ dashB) (h3 : digD (tx l p f) = true) : exprD l E d (p, f) = (.mk 1 (place l E p) (numD l (p, f)).1 emp [], (numD l (p, f)).2) := by
 unfold exprD
 rw [if_neg h1, if_neg h2, if_pos h3]
theorem exprD_name (h1 : tx l p f ≠ lparB) (h2 : tx l p f ≠ dashB) (h3 : digD (tx l p f) = false) (h4 : tx l (nameD l (p, f)).2.1 (nameD l (p, f)).2.2 ≠ lsqB) : exprD l E d (p, f) = (.mk 2 (place l E p) 0 (nameD l (p, f)).1 [], (nameD l (p, f)).2) := by
 unfold exprD
 rw [if_neg h1, if_neg h2, if_neg (by rw [h3]; decide)]
 simp only []
 rw [if_neg h4]
theorem exprD_celldeep (h1 : tx l p f ≠ lparB) (h2 : tx l p f ≠ dashB) (h3 : digD (tx l p f) = false) (h4 : tx l (nameD l (p, f)).2.1 (nameD l (p, f)).2.2 = lsqB) : exprD l E 0 (p, f) = (.mk 2 (place l E p) 0 (nameD l (p, f)).1 [], ((nameD l (p, f)).2.1, true)) := by
 unfold exprD
 rw [if_neg h1, if_neg h2, if_neg (by rw [h3]; decide)]
 simp only []
 rw [if_pos h4]
theorem exprD_cell (h1 : tx l p f ≠ lparB) (h2 : tx l p f ≠ dashB) (h3 : digD (tx l p f) = false) (h4 : tx l (nameD l (p, f)).2.1 (nameD l (p, f)).2.2 = lsqB) : exprD l E (d + 1) (p, f) = (.mk 3 (place l E p) 0 (nameD l (p, f)).1 [(exprD l E d (needD l lsqB (nameD l (p, f)).2)).1], needD l rsqB (exprD l E d (needD l lsqB (nameD l (p, f)).2)).2) := by
 conv => lhs; unfold exprD
 rw [if_neg h1, if_neg h2, if_neg (by rw [h3]; decide)]
 simp only []
 rw [if_pos h4]
/-- behind an operator -/
def opS (l : List Tok) (a : RS) : RS := match opD l a with
 | none => (a.1, true)
 | some i => needD l (opB i) a
theorem exprD_pair (h : tx l p f = lparB) : exprD l E (d + 1) (p, f) = (.mk (opK (opD l (exprD l E d (needD l lparB (p, f))).2) 7) (place l E p) 0 emp [(exprD l E d (needD l lparB (p, f))).1, (exprD l E d (opS l (exprD l E d (needD l lparB (p, f))).2)).1], needD l rparB (exprD l E d (opS l (exprD l E d (needD l lparB (p, f))).2)).2) := by
 conv => lhs; unfold exprD
 rw [if_pos h, opK_end]
 rfl
end
/-- it stays within the tokens -/
theorem failD_le {l : List Tok} {c : Bool} {q : RS} (h : q.1 ≤ l.length) : (failD c q).1 ≤ l.length := by
 unfold failD
 split
 ·exact h
 ·exact h
theorem opS_le {l : List Tok} {q : RS} (h : q.1 ≤ l.length) : (opS l q).1 ≤ l.length := by
 unfold opS
 cases ho : opD l q with
 | none => exact h
 | some i => exact needD_le (op_emp ⟨i, (opD_some ho).1⟩) h
theorem exprD_le {l : List Tok} {E : Nat} (hok : ∀ t ∈ l, TokOk t) : ∀ (d : Nat) (q : RS), q.1 ≤ l.length → (exprD l E d q).2.1 ≤ l.length
 | d, (p, f), hq => by
  by_cases h1 : tx l p f = lparB
  ·cases d with
   | zero => rw [exprD_deep h1]; exact hq
   | succ d =>
    rw [exprD_pair h1]
    exact needD_le (by decide) (exprD_le hok d _ (opS_le (exprD_le hok d _ (needD_le (by decide) hq))))
  ·by_cases h2 : tx l p f = dashB
   ·rw [exprD_dash h1 h2]
    exact (numD_le hok (failD_le (needD_le (by decide) hq))).1
   ·by_cases h3 : digD (tx l p f) = true
    ·rw [exprD_num h1 h2 h3]
     exact (numD_le hok hq).1
    ·have h3 : digD (tx l p f) = false := by simpa using h3
     by_cases h4 : tx l (nameD l (p, f)).2.1 (nameD l (p, f)).2.2 = lsqB
     ·cases d with
      | zero => rw [exprD_celldeep h1 h2 h3 h4]; exact nameD_le hq
      | succ d =>
       rw [exprD_cell h1 h2 h3 h4]
       exact needD_le (by decide) (exprD_le hok d _ (needD_le (by decide) (nameD_le hq)))
     ·rw [exprD_name h1 h2 h3 h4]
      exact nameD_le hq
end Go.Proofs.YtmfjlcpjemccmaaGreatDoor
