/- What the document's reader of an expression hands back; its plain words. The printer of trees: its builder, that is written and read. Each lemma states its own conditions. -/
import Derived.Test.YtmfjlcpjemccmaaGreatDoorSws06
import Derived.WalkKit
import Derived.Lib.OthersKept
import Derived.Lib.Strings
import Derived.Lib.Builder
import Derived.Lib.AppendStr
import Derived.Lib.UnsafeStr
import Derived.Lib.AppendIntMem
namespace Go.Proofs.YtmfjlcpjemccmaaGreatDoor
open Go.RowKit
/-- what Expr hands back -/
def ExprRes (w : World) (g : Nat) (lv : Value) (E : Nat) (x : TE × RS) (r : Ending) (w' : World) : Prop :=
 w.grownBy w' (some g) ∧ Rd w' g lv x.2.1 E x.2.2 ∧ ∃ A c, r = .returned (.agg #[.int .i64 x.1.kind, .int .i64 x.1.at_, .int .i64 x.1.n, .string x.1.name, .slice A x.1.args.length c]) ∧ x.1.name.size ≤ maxLen ∧ Sl teR (low w.heap.size w') (.slice A x.1.args.length c) x.1.args
theorem ExprRes.mk {w : World} {g : Nat} {lv : Value} {E : Nat} {x : TE × RS} {w' : World} {k a n : Int} {s : ByteArray} {args : List TE} {q : RS} {A : Option Addr} {c : Nat} (hx : x = (.mk k a n s args, q)) (hg : w.grownBy w' (some g)) (hr : Rd w' g lv q.1 E q.2) (hs : s.size ≤ maxLen) (hl : Sl teR (low w.heap.size w') (.slice A args.length c) args) :
  ExprRes w g lv E x (.returned (.agg #[.int .i64 k, .int .i64 a, .int .i64 n, .string s, .slice A args.length c])) w' := by
 subst hx
 exact ⟨hg, hr, A, c, rfl, hs, hl⟩
theorem teR_more : More teR := by
 intro X Y hc cs x (h : TER X x cs)
 show TER Y x cs
 induction h with
 | mk k a n s args v f hs hv hf ih =>
  obtain ⟨A, c, h1, h2, h3, h4⟩ := hv
  exact .mk k a n s args v f hs ⟨A, c, h1, h2, h3, fun hp => by
   obtain ⟨b, o, hA, hx⟩ := h4 hp
   exact ⟨b, o, hA, fun i hi j u hu => hc _ _ _ (hx i hi j u hu)⟩⟩ ih
section
variable {B : Nat} {w : World}
/-- a new row of one expression, of two -/
theorem te_one {v : Value} {G : Nat} {t : TypeId} {a : TE} (hB : Blk w G t #[.int .i64 a.kind, .int .i64 a.at_, .int .i64 a.n, .string a.name, v]) (hG : B ≤ G) (hs : a.name.size ≤ maxLen) (hv : Sl teR (low B w) v a.args) : Sl teR (low B w) (.slice (some ⟨G, 0, none⟩) 1 1) [a] := by
 refine ⟨some ⟨G, 0, none⟩, 1, rfl, Nat.le_refl _, ⟨by simp [maxLen], fun h => by cases h⟩, fun _ => ⟨G, 0, rfl, fun i x hx => ?_⟩⟩
 cases i with
 | zero =>
  obtain rfl : a = x := by simpa using hx
  obtain ⟨k', a', n', s', args⟩ := a
  refine ⟨_, TER.shut hs hv, low_to (fun j u hu => hB.cell (i := 0 + 0 * teR.size + j) ?_) hG⟩
  simpa [TE.kind, TE.at_, TE.n, TE.name] using hu
 | succ i => simp at hx
theorem te_two {v u : Value} {G : Nat} {t : TypeId} {a b : TE} (hB : Blk w G t #[.int .i64 a.kind, .int .i64 a.at_, .int .i64 a.n, .string a.name, v, .int .i64 b.kind, .int .i64 b.at_, .int .i64 b.n, .string b.name, u]) (hG : B ≤ G) (hsa : a.name.size ≤ maxLen) (hsb : b.name.size ≤ maxLen)
  (hv : Sl teR (low B w) v a.args) (hu : Sl teR (low B w) u b.args) : Sl teR (low B w) (.slice (some ⟨G, 0, none⟩) 2 2) [a, b] := by
 refine ⟨some ⟨G, 0, none⟩, 2, rfl, Nat.le_refl _, ⟨by simp [maxLen], fun h => by cases h⟩, fun _ => ⟨G, 0, rfl, fun i x hx => ?_⟩⟩
 match i, hx with
 | 0, hx =>
  obtain rfl : a = x := by simpa using hx
  obtain ⟨k', a', n', s', args⟩ := a
  refine ⟨_, TER.shut hsa hv, low_to (fun j u' hu' => hB.cell (i := 0 + 0 * teR.size + j) ?_) hG⟩
  match j, hu' with
  | 0, h | 1, h | 2, h | 3, h | 4, h => simpa [TE.kind, TE.at_, TE.n, TE.name] using h
  | j + 5, h => simp at h
 | 1, hx =>
  obtain rfl : b = x := by simpa using hx
  obtain ⟨k', a', n', s', args⟩ := b
  refine ⟨_, TER.shut hsb hu, low_to (fun j u' hu' => hB.cell (i := 0 + 1 * teR.size + j) ?_) hG⟩
  match j, hu' with
  | 0, h | 1, h | 2, h | 3, h | 4, h => simpa [teR, TE.kind, TE.at_, TE.n, TE.name] using h
  | j + 5, h => simp at h
 | i + 2, hx => simp at hx
end
set_option maxRecDepth 20000 in
/-- Text draws alone -/
theorem text_q (l : List Tok) (lv : Value) (p E g : Nat) (f : Bool) (w : World) (hl : Sl tokR w lv l) (hn : l.length ≤ 6000) (hp6 : p ≤ l.length) (h : Rd w g lv p E f) :
  Calls Tryz.prog 52 #[.pointer (some ⟨g, 0, none⟩), .int .i64 0] w fun r w' => r = .returned (.string (tx l p f)) ∧ ∃ m, w' = w.drewN m := by
 obtain ⟨y0, y1, y2, y3, -, -⟩ := h.go
 obtain ⟨A, c, rfl, _, _, hA⟩ := hl
 cases f with
 | true =>
  clear hA h
  go_enter Tryz.func52, Tryz.ntmps52
  go_wp2
  go_quiet (fail)
  go_wp2
  go_ret
  exact ⟨rfl, _, rfl⟩
 | false =>
  by_cases hp : p < l.length
  ·obtain ⟨t, hx⟩ : ∃ t, l[p]? = some t := ⟨_, List.getElem?_eq_getElem hp⟩
   have HT : Hid (tx l p false = t.text) := Lib.hid (by unfold tx; rw [if_neg (by decide), hx])
   obtain ⟨b, o, rfl, hcs⟩ := hA (by omega)
   obtain ⟨x0, x1, x2⟩ := tokR.cells hcs hx
   have d1 : decide (l.length ≤ p) = false := decide_eq_false (by omega)
   clear hcs hx hA h x0 x1
   go_enter Tryz.func52, Tryz.ntmps52
   go_wp2
   go_quiet (fail)
   go_wp2
   go_quiet (fail)
   go_wp2
   go_ret
   exact ⟨by rw [HT.out]; rfl, _, by rw [World.drewN_drewN]⟩
  ·have HT : Hid (tx l p false = emp) := Lib.hid (by unfold tx; rw [if_neg (by decide), List.getElem?_eq_none (by omega)])
   have d1 : decide (l.length ≤ p) = true := decide_eq_true (by omega)
   clear hA h
   go_enter Tryz.func52, Tryz.ntmps52
   go_wp2
   go_quiet (fail)
   go_wp2
   go_ret
   exact ⟨by rw [HT.out]; rfl, _, rfl⟩
/-- the operators differ -/
theorem op_ne : ∀ i j : Fin 7, opB i.val = opB j.val → i = j := by decide +kernel
theorem op_emp : ∀ i : Fin 7, opB i.val ≠ emp := by decide +kernel
theorem opD_some {l : List Tok} {r : RS} {i : Nat} (h : opD l r = some i) : i < 7 ∧ tx l r.1 r.2 = opB i := by
 unfold opD at h
 exact ⟨List.mem_range.1 (List.mem_of_find?_eq_some h), by have := List.find?_some h; simpa using this⟩
theorem opD_yes {l : List Tok} {r : RS} {i : Nat} (hi : i < 7) (h : tx l r.1 r.2 = opB i) : opD l r = some i := by
 cases ho : opD l r with
 | none =>
  unfold opD at ho
  rw [List.find?_eq_none] at ho
  have := ho i (List.mem_range.2 hi)
  rw [h] at this
  simp at this
 | some j =>
  obtain ⟨h1, h2⟩ := opD_some ho
  have := op_ne ⟨i, hi⟩ ⟨j, h1⟩ (h.symm.trans h2)
  rw [Fin.mk.injEq] at this
  rw [this]
/-- the kind found among the first operators -/
def opK (o : Option Nat) (k : Nat) : Int := match o with
 | some i => if i < k then 4 + (i : Int) else 0
 | none => 0
theorem opK_yes {o : Option Nat} {k : Nat} (h : o = some k) : opK o (k + 1) = 4 + (k : Int) := by
 subst h
 unfold opK
 simp only []
 rw [if_pos (by omega)]
theorem opK_no {o : Option Nat} {k : Nat} (h : o ≠ some k) : opK o (k + 1) = opK o k := by
 unfold opK
 cases o with
 | none => rfl
 | some i =>
  have : i ≠ k := fun e => h (by rw [e])
  simp only []
  by_cases hk : i < k
  ·rw [if_pos hk, if_pos (by omega)]
  ·rw [if_neg hk, if_neg (by omega)]
theorem opK_end {l : List Tok} {r : RS} : opK (opD l r) 7 = match opD l r with
  | none => 0
  | some i => 4 + (i : Int) := by
 cases h : opD l r with
 | none => rfl
 | some i =>
  unfold opK
  simp only []
  exact if_pos (opD_some h).1
theorem ops_cell {w : World} {G : Nat} {t : TypeId} (h : Blk w G t (opsL.map Value.string).toArray) {k : Nat} (hk : k < 7) : w.cell? ⟨G, k, none⟩ = some (.string (opB k)) := by
 refine Blk.cell h ?_
 unfold opB
 rw [List.getElem?_toArray, List.getElem?_map, List.getD_eq_getElem?_getD]
 have : k < opsL.length := hk
 rw [List.getElem?_eq_getElem this]
 rfl
section
variable {l : List Tok} {E d p : Nat} {f : Bool}
theorem exprD_deep (h : tx l p f = lparB) : exprD l E 0 (p, f) = (.mk 1 (place l E p) 0 emp [], (p, true)) := by
 unfold exprD
 rw [if_pos h]
theorem exprD_dash (h1 : tx l p f ≠ lparB) (h2 : tx l p f = dashB) : exprD l E d (p, f) = (.mk 1 (place l E p) (-(numD l (failD (decide (tx l (needD l dashB (p, f)).1 (needD l dashB (p, f)).2 = zeroB)) (needD l dashB (p, f)))).1) emp [], (numD l (failD (decide (tx l (needD l dashB (p, f)).1 (needD l dashB (p, f)).2 = zeroB)) (needD l dashB (p, f)))).2) := by
 unfold exprD
 rw [if_neg h1, if_pos h2]
theorem exprD_num (h1 : tx l p f ≠ lparB) (h2 : tx l p f ≠ dashB) (h3 : digD (tx l p f) = true) : exprD l E d (p, f) = (.mk 1 (place l E p) (numD l (p, f)).1 emp [], (numD l (p, f)).2) := by
 unfold exprD
 rw [if_neg h1, if_neg h2, if_pos h3]
theorem exprD_name (h1 : tx l p f ≠ lparB) (h2 : tx l p f ≠ dashB) (h3 : digD (tx l p f) = false) (h4 : tx l (nameD l (p, f)).2.1 (nameD l (p, f)).2.2 ≠ lsqB) : exprD l E d (p, f) = (.mk 2 (place l E p) 0 (nameD l (p, f)).1 [], (nameD l (p, f)).2) := by
 unfold exprD
 rw [if_neg h1, if_neg h2, if_neg (by rw [h3]; decide)]
 simp only []
 rw [if_neg h4]
theorem exprD_celldeep (h1 : tx l p f ≠ lparB) (h2 : tx l p f ≠ dashB) (h3 : digD (tx l p f) = false) (h4 : tx l (nameD l (p, f)).2.1 (nameD l (p, f)).2.2 = lsqB) : exprD l E 0 (p, f) = (.mk 2 (place l E p) 0 (nameD l (p, f)).1 [], ((nameD l (p, f)).2.1, true)) := by
 unfold exprD
 rw [if_neg h1, if_neg h2, if_neg (by rw [h3]; decide)]
 simp only []
 rw [if_pos h4]
theorem exprD_cell (h1 : tx l p f ≠ lparB) (h2 : tx l p f ≠ dashB) (h3 : digD (tx l p f) = false) (h4 : tx l (nameD l (p, f)).2.1 (nameD l (p, f)).2.2 = lsqB) : exprD l E (d + 1) (p, f) = (.mk 3 (place l E p) 0 (nameD l (p, f)).1 [(exprD l E d (needD l lsqB (nameD l (p, f)).2)).1], needD l rsqB (exprD l E d (needD l lsqB (nameD l (p, f)).2)).2) := by
 conv => lhs; unfold exprD
 rw [if_neg h1, if_neg h2, if_neg (by rw [h3]; decide)]
 simp only []
 rw [if_pos h4]
/-- behind an operator -/
def opS (l : List Tok) (a : RS) : RS := match opD l a with
 | none => (a.1, true)
 | some i => needD l (opB i) a
theorem exprD_pair (h : tx l p f = lparB) : exprD l E (d + 1) (p, f) = (.mk (opK (opD l (exprD l E d (needD l lparB (p, f))).2) 7) (place l E p) 0 emp [(exprD l E d (needD l lparB (p, f))).1, (exprD l E d (opS l (exprD l E d (needD l lparB (p, f))).2)).1], needD l rparB (exprD l E d (opS l (exprD l E d (needD l lparB (p, f))).2)).2) := by
 conv => lhs; unfold exprD
 rw [if_pos h, opK_end]
 rfl
end
/-- it stays within the tokens -/
theorem failD_le {l : List Tok} {c : Bool} {q : RS} (h : q.1 ≤ l.length) : (failD c q).1 ≤ l.length := by
 unfold failD
 split
 ·exact h
 ·exact h
theorem opS_le {l : List Tok} {q : RS} (h : q.1 ≤ l.length) : (opS l q).1 ≤ l.length := by
 unfold opS
 cases ho : opD l q with
 | none => exact h
 | some i => exact needD_le (op_emp ⟨i, (opD_some ho).1⟩) h
theorem exprD_le {l : List Tok} {E : Nat} (hok : ∀ t ∈ l, TokOk t) : ∀ (d : Nat) (q : RS), q.1 ≤ l.length → (exprD l E d q).2.1 ≤ l.length
 | d, (p, f), hq => by
  by_cases h1 : tx l p f = lparB
  ·cases d with
   | zero => rw [exprD_deep h1]; exact hq
   | succ d =>
    rw [exprD_pair h1]
    exact needD_le (by decide) (exprD_le hok d _ (opS_le (exprD_le hok d _ (needD_le (by decide) hq))))
  ·by_cases h2 : tx l p f = dashB
   ·rw [exprD_dash h1 h2]
    exact (numD_le hok (failD_le (needD_le (by decide) hq))).1
   ·by_cases h3 : digD (tx l p f) = true
    ·rw [exprD_num h1 h2 h3]
     exact (numD_le hok hq).1
    ·have h3 : digD (tx l p f) = false := by simpa using h3
     by_cases h4 : tx l (nameD l (p, f)).2.1 (nameD l (p, f)).2.2 = lsqB
     ·cases d with
      | zero => rw [exprD_celldeep h1 h2 h3 h4]; exact nameD_le hq
      | succ d =>
       rw [exprD_cell h1 h2 h3 h4]
       exact needD_le (by decide) (exprD_le hok d _ (needD_le (by decide) (nameD_le hq)))
     ·rw [exprD_name h1 h2 h3 h4]
      exact nameD_le hq
end Go.Proofs.YtmfjlcpjemccmaaGreatDoor
namespace Go.Proofs.YtmfjlcpjemccmaaGreatDoor
open Go.RowKit
/-- a printer in block q: its depth, what was written -/
def Pr (B q : Nat) (d : Int) (s : List Value) (w : World) : Prop :=
 B ≤ q ∧ ∃ p v, (p = .pointer none ∨ p = .pointer (some ⟨q, 0, none⟩)) ∧ w.heap[q]? = some (.cells #[p, v, .int .i64 d] 71 (0, 0)) ∧ w.ownsRow B 5 1 v s.length s
/-- what a writer leaves as it was -/
def Kp (B q : Nat) (w w' : World) : Prop := Below B w w' ∧ Lib.OthersKept 5 (some q) w w'
theorem Kp.rfl_ (B q : Nat) (w : World) : Kp B q w w := ⟨Below.refl B w, Lib.OthersKept.refl _ _ w⟩
theorem Kp.tr {B q : Nat} {a b c : World} (h : Kp B q a b) (k : Kp B q b c) : Kp B q a c := ⟨Below.trans h.1 k.1, h.2.trans k.2⟩
theorem Kp.size {B q : Nat} {w w' : World} (h : Kp B q w w') : w.heap.size ≤ w'.heap.size := h.1.size
theorem Kp.of {B q : Nat} {w w' : World} (h : Bel w w') (hB : B ≤ w.heap.size) : Kp B q w w' :=
 ⟨Below.mono h hB, fun k o hk _ _ => by
  have hlt : k < w.heap.size := (Array.getElem?_eq_some_iff.1 hk).1
  rw [h.block k hlt]
  exact hk⟩
theorem Kp.blk {B q : Nat} {w w' : World} (h : Kp B q w w') {g : Nat} {t : TypeId} {cs : Array Value} (hb : Blk w g t cs) (hq : g ≠ q) (ht : t ≠ 5) : Blk w' g t cs :=
 h.2 g _ hb (fun e => hq (Option.some.inj e)) fun c fz e => by
  injection e with _ e2 _
  exact ht e2
theorem Pr.keep {B q : Nat} {d : Int} {s : List Value} {w w' : World} (h : Pr B q d s w) (hb : Bel w w') : Pr B q d s w' := by
 obtain ⟨h1, p, v, hp, hh, ho⟩ := h
 exact ⟨h1, p, v, hp, (hb.block q (Array.getElem?_eq_some_iff.1 hh).1).trans hh, hb.own ho⟩
theorem Pr.lt {B q : Nat} {d : Int} {s : List Value} {w : World} (h : Pr B q d s w) : q < w.heap.size := by
 obtain ⟨h1, p, v, hp, hh, ho⟩ := h
 exact (Array.getElem?_eq_some_iff.1 hh).1
theorem Pr.deep {B q : Nat} {d : Int} {s : List Value} {w : World} (h : Pr B q d s w) : w.cell? ⟨q, 2, none⟩ = some (.int .i64 d) ∧ w.frozen? ⟨q, 2, none⟩ = false := by
 obtain ⟨h1, p, v, hp, hh, ho⟩ := h
 exact ⟨by rw [Lib.cell_of_heap hh]; rfl, Lib.frozen_of_heap hh 2⟩
/-- the depth turned -/
theorem Pr.to_ {B q : Nat} {d : Int} {s : List Value} {w : World} (h : Pr B q d s w) (e : Int) : Pr B q e s (w.setCell ⟨q, 2, none⟩ (.int .i64 e)) ∧ Kp B q w (w.setCell ⟨q, 2, none⟩ (.int .i64 e)) := by
 obtain ⟨h1, p, v, hp, hh, ho⟩ := h
 have hne := Lib.ownBlock_ne ho hh (by decide)
 refine ⟨⟨h1, p, v, hp, ?_, ?_⟩, (Below.refl B w).setCell (p := ⟨q, 2, none⟩) h1 _, (Lib.OthersKept.refl _ _ w).setCell ⟨q, 2, none⟩ rfl _⟩
 ·simp [World.setCell, Array.getElem?_modify, hh]
 ·exact ho.kept (row := some q) ⟨rfl, rfl, rfl, by simp [World.setCell], fun k _ hk => Below.heap_setCell _ _ _ _ (fun e => hk (by simp [e]))⟩ (Or.inr hne)
set_option maxHeartbeats 1000000 in
set_option maxRecDepth 100000 in
theorem check_used (q : Nat) (w : World) (h0 : w.cell? ⟨q, 0, none⟩ = some (.pointer (some ⟨q, 0, none⟩))) :
  Calls Tryz.prog 162 #[.pointer (some ⟨q, 0, none⟩)] w fun e w' => e = .returned (.tuple #[]) ∧ w' = w := by
 obtain ⟨j, hj⟩ : ∃ j, Tryz.prog.info? 69 = some j := Option.isSome_iff_exists.1 (by kernel_rfl)
 go_enter Tryz.func162, Tryz.ntmps162
 go_wp2
 rw [Lib.run_neq_ptr_same w _ Tryz.underlying66 hj]
 go_wp2
 go_end0
 exact ⟨rfl, rfl⟩
set_option maxHeartbeats 1000000 in
set_option maxRecDepth 100000 in
theorem check_fresh (q : Nat) (w : World) (h0 : w.cell? ⟨q, 0, none⟩ = some (.pointer none)) (hsh : w.shape? q = some (71, 3)) (hfz : w.frozen? ⟨q, 0, none⟩ = false) :
  Calls Tryz.prog 162 #[.pointer (some ⟨q, 0, none⟩)] w fun e w' => e = .returned (.tuple #[]) ∧ w' = w.setCell ⟨q, 0, none⟩ (.pointer (some ⟨q, 0, none⟩)) := by
 obtain ⟨j, hj, hjs⟩ : ∃ j, Tryz.prog.info? 69 = some j ∧ j.size = 2 := Option.map_eq_some_iff.1 (show (Tryz.prog.info? 69).map (·.size) = some 2 by kernel_rfl)
 go_enter Tryz.func162, Tryz.ntmps162
 go_wp2
 rw [Lib.run_to_unsafe w ⟨q, 0, none⟩ Tryz.underlying66 Tryz.underlying213 hj (by rw [hjs]; decide) hsh (Nat.zero_lt_succ 2)]
 simp only [Result.andThen]
 rw [Oper.upon_value]
 go_wp2
 rw [run_callFunc_extern Tryz.func195 (by kernel_rfl) (by kernel_rfl) (by kernel_rfl) (e := Extern.AbiNoEscape.same) (by kernel_rfl)]
 rw [Lib.run_noEscape]
 simp only [Result.andThen]
 rw [Oper.upon_value]
 go_wp2
 rw [Lib.run_from_unsafe w ⟨q, 0, none⟩ Tryz.underlying213 Tryz.underlying66 hj hsh (by kernel_rfl)]
 simp only [Result.andThen]
 rw [Oper.upon_value]
 go_wp2
 go_end0
 exact ⟨rfl, rfl⟩
/-- copyCheck at the printer's builder -/
theorem check_pr {B q : Nat} {d : Int} {s : List Value} {w : World} (h : Pr B q d s w) :
  Calls Tryz.prog 162 #[.pointer (some ⟨q, 0, none⟩)] w fun e w' => e = .returned (.tuple #[]) ∧ (B ≤ q ∧ ∃ v, w'.heap[q]? = some (.cells #[.pointer (some ⟨q, 0, none⟩), v, .int .i64 d] 71 (0, 0)) ∧ w'.ownsRow B 5 1 v s.length s) ∧ Kp B q w w' := by
 obtain ⟨h1, p, v, hp, hh, ho⟩ := h
 have hne := Lib.ownBlock_ne ho hh (by decide)
 rcases hp with rfl | rfl
 ·refine (check_fresh q w (by rw [Lib.cell_of_heap hh]; rfl) (by simp [World.shape?, hh]) (Lib.frozen_of_heap hh 0)).mono ?_
  rintro e w' ⟨rfl, rfl⟩
  refine ⟨rfl, ⟨h1, v, ?_, ?_⟩, (Below.refl B w).setCell (p := ⟨q, 0, none⟩) h1 _, (Lib.OthersKept.refl _ _ w).setCell ⟨q, 0, none⟩ rfl _⟩
  ·simp [World.setCell, Array.getElem?_modify, hh]
  ·exact ho.kept (row := some q) ⟨rfl, rfl, rfl, by simp [World.setCell], fun k _ hk => Below.heap_setCell _ _ _ _ (fun e => hk (by simp [e]))⟩ (Or.inr hne)
 ·refine (check_used q w (by rw [Lib.cell_of_heap hh]; rfl)).mono ?_
  rintro e w' ⟨rfl, rfl⟩
  exact ⟨rfl, ⟨h1, v, hh, ho⟩, Kp.rfl_ _ _ _⟩
set_option maxHeartbeats 2000000 in
set_option maxRecDepth 100000 in
/-- WriteString at the printer's builder -/
theorem write_pr {B q : Nat} {d : Int} {bs : List Value} {w : World} (s : ByteArray) (h : Pr B q d bs w) (hlen : bs.length + s.size ≤ 140737488355328) (hBw : B ≤ w.heap.size) :
  Calls Tryz.prog 116 #[.pointer (some ⟨q, 0, none⟩), .string s] w fun e w' => e = .returned (.tuple #[.int .i64 s.size, .nilIface]) ∧ Pr B q d (bs ++ Lib.strCells s) w' ∧ Kp B q w w' := by
 obtain ⟨i0, hi, hz0, hz1, hz2⟩ := info_parts (show (Tryz.prog.info? 5).map (fun i => (i.zero, i.size, i.bytes)) = some (some (.int .u8 0), 1, 1) by kernel_rfl)
 have HC := Lib.hid (check_pr h)
 clear h
 go_enter Tryz.func116, Tryz.ntmps116
 go_wp2_with fail
 refine HC.out.mono ?_
 rintro e w1 ⟨rfl, ⟨hB, v, hbk, hown⟩, hk⟩
 have hne := Lib.ownBlock_ne hown hbk (by decide)
 have c0 : w1.cell? ⟨q, 0, none⟩ = some (.pointer (some ⟨q, 0, none⟩)) := by rw [Lib.cell_of_heap hbk]; rfl
 have c1 : w1.cell? ⟨q, 1, none⟩ = some v := by rw [Lib.cell_of_heap hbk]; rfl
 go_wp2_with (at_builtin; refine Lib.wpList_append_own_string _ rfl _ _ 67 9 rfl B 5 i0 Tryz.underlying67 Tryz.underlying9 hi hz0 hz1 hz2 _ _ _ rfl hown s rfl ?c3 ?c4 ?c5 ?_)
 case c3 => unfold maxLen; omega
 case c4 => omega
 case c5 => have := hk.size; omega
 intro v' w2 hown' hgrow _
 have hlt : q < w1.heap.size := (Array.getElem?_eq_some_iff.1 hbk).1
 have hb2 : w2.heap[q]? = some (.cells #[.pointer (some ⟨q, 0, none⟩), v, .int .i64 d] 71 (0, 0)) := by
  rw [hgrow.block q hlt (fun e => hne e.symm)]
  exact hbk
 have d0 : w2.cell? ⟨q, 0, none⟩ = some (.pointer (some ⟨q, 0, none⟩)) := by rw [Lib.cell_of_heap hb2]; rfl
 have d1 : w2.cell? ⟨q, 1, none⟩ = some v := by rw [Lib.cell_of_heap hb2]; rfl
 have f1 : w2.frozen? ⟨q, 1, none⟩ = false := Lib.frozen_of_heap hb2 1
 obtain ⟨ao, n', cap, rfl⟩ : ∃ ao n' cap, v' = .slice ao n' cap := by
  rcases hown'.2 with ⟨hv, _⟩ | ⟨g, cap, cur, hv, _⟩
  ·exact ⟨_, _, _, hv⟩
  ·exact ⟨_, _, _, hv⟩
 go_wp2
 go_ret2
 have hne2 := Lib.ownBlock_ne hown' hb2 (by decide)
 refine ⟨rfl, ⟨hB, .pointer (some ⟨q, 0, none⟩), .slice ao n' cap, Or.inr rfl, ?_, ?_⟩, ?_, ?_⟩
 ·simp [World.setCell, Array.getElem?_modify, hb2]
 ·have := hown'.kept (w' := w2.setCell ⟨q, 1, none⟩ (.slice ao n' cap)) (row := some q) ⟨rfl, rfl, rfl, by simp [World.setCell], fun k _ hk => Below.heap_setCell _ _ _ _ (fun e => hk (by simp [e]))⟩ (Or.inr hne2)
  simpa [Lib.strCells_length] using this
 ·exact (hk.1.grown hgrow (by have := hk.size; omega) (fun k hk => (hown.lt k hk).1)).setCell (p := ⟨q, 1, none⟩) hB _
 ·exact (hk.2.grown hgrow (Lib.ownsRowF_kind (World.ownsRowF_of hown))).setCell ⟨q, 1, none⟩ rfl _
set_option maxHeartbeats 1000000 in
set_option maxRecDepth 100000 in
/-- String at the printer's builder, that holds something -/
theorem read_pr {B q : Nat} {d : Int} {s : ByteArray} {w : World} (h : Pr B q d (Lib.strCells s) w) (h0 : s.size ≠ 0) :
  Calls Tryz.prog 35 #[.pointer (some ⟨q, 0, none⟩)] w fun e w' => e = .returned (.string s) ∧ Below B w w' := by
 obtain ⟨hB, p, v, hp, hbk, hown⟩ := h
 clear hp
 obtain ⟨l, rfl⟩ : ∃ l : List UInt8, s = ⟨l.toArray⟩ := ⟨s.data.toList, rfl⟩
 have hl0 : l.length ≠ 0 := h0
 have hl1 : l ≠ [] := fun e => hl0 (by rw [e]; rfl)
 rw [Lib.strCells_toArray, Lib.byteCells_length] at hown
 obtain ⟨g, cap, cur, rfl, hbg, hg, hnc, hcm, hcs, htake⟩ : ∃ g cap cur, v = .slice (some ⟨g, 0, none⟩) l.length cap ∧ B ≤ g ∧ w.heap[g]? = some (.cells cur 5 (0, 0)) ∧ l.length ≤ cap ∧ cap ≤ maxLen ∧ cur.size = cap * 1 ∧ cur.toList.take (l.length * 1) = Lib.byteCells l := by
  rcases hown.2 with ⟨_, hz⟩ | ⟨g, cap, cur, hv, r⟩
  ·exact absurd hz hl0
  ·exact ⟨g, cap, cur, hv, r⟩
 have c1 : w.drew.cell? ⟨q, 1, none⟩ = some (.slice (some ⟨g, 0, none⟩) l.length cap) := by
  have : w.drew.heap[q]? = some (.cells #[p, .slice (some ⟨g, 0, none⟩) l.length cap, .int .i64 d] 71 (0, 0)) := hbk
  rw [Lib.cell_of_heap this]; rfl
 have hSD : (Builtin.unsafeSliceData_ #[67] 127 #[.slice (some ⟨g, 0, none⟩) l.length cap]).run Tryz.prog w.drew = .ok (.pointer (some ⟨g, 0, none⟩)) w.drew :=
  Lib.run_unsafeSliceData_row _ _ _ _ _ _ (by omega)
 have hUS : (Builtin.unsafeString_ #[127, 3] 9 #[.pointer (some ⟨g, 0, none⟩), .int .i64 l.length]).run Tryz.prog w.drew = .ok (.string ⟨l.toArray⟩) (w.drew.freeze ⟨g, 0, none⟩ l.length) := by
  refine Lib.run_unsafeString_row w.drew 127 3 9 5 Tryz.underlying127 (by kernel_rfl) g cur.size (by have hg' : w.drew.heap[g]? = some (.cells cur 5 (0, 0)) := hg; simp [World.shape?, hg']) l hl1 (by omega) (by unfold maxLen at hcm; omega) ?_
  intro j x hx
  exact hown.cells (g := g) rfl j (.int .u8 x.toNat) (by simp [Lib.byteCells, hx])
 go_enter Tryz.func35, Tryz.ntmps35
 go_wp2
 go_region
 all_goals (go_wp2; go_ret; exact ⟨rfl, Lib.below_freeze (Below.drew (Below.refl B w)) (p := ⟨g, 0, none⟩) hbg _⟩)
end Go.Proofs.YtmfjlcpjemccmaaGreatDoor
