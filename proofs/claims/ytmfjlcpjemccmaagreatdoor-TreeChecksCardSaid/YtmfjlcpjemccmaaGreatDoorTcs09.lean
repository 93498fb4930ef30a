/- What the document's reader of an expression hands back; its plain words. Lists that a call makes by appending, whose elements lie elsewhere in new memory. Each lemma states its own conditions. -/
import Derived.Test.YtmfjlcpjemccmaaGreatDoorTcs08
import Derived.Test.YtmfjlcpjemccmaaGreatDoorTcs01
namespace Go.Proofs.YtmfjlcpjemccmaaGreatDoor
open Go.RowKit
theorem teR_more : More teR := by
 intro X Y hc cs x (h : TER X x cs)
 show TER Y x cs
 induction h with
 | mk k a n s args v f hs hv hf ih =>
  obtain ⟨A, c, h1, h2, h3, h4⟩ := hv
  exact .mk k a n s args v f hs ⟨A, c, h1, h2, h3, fun hp => by
   obtain ⟨b, o, hA, hx⟩ := h4 hp
   exact ⟨b, o, hA, fun i hi j u hu => hc _ _ _ (hx i hi j u hu)⟩⟩ ih
section
variable {B : Nat} {w : World}
/-- a new row of one expression, of two -/
theorem te_one {v : Value} {G : Nat} {t : TypeId} {a : TE} (hB : Blk w G t #[.int .i64 a.kind, .int .i64 a.at_, .int .i64 a.n, .string a.name, v]) (hG : B ≤ G) (hs : a.name.size ≤ maxLen) (hv : Sl teR (low B w) v a.args) : Sl teR (low B w) (.slice (some ⟨G, 0, none⟩) 1 1) [a] := by
 refine ⟨some ⟨G, 0, none⟩, 1, rfl, Nat.le_refl _, ⟨by simp [maxLen], fun h => by cases h⟩, fun _ => ⟨G, 0, rfl, fun i x hx => ?_⟩⟩
 cases i with
 | zero =>
  obtain rfl : a = x := by simpa using hx
  obtain ⟨k', a', n', s', args⟩ := a
  refine ⟨_, TER.shut hs hv, low_to (fun j u hu => hB.cell (i := 0 + 0 * teR.size + j) ?_) hG⟩
  simpa [TE.kind, TE.at_, TE.n, TE.name] using hu
 | succ i => simp at hx
theorem te_two {v u : Value} {G : Nat} {t : TypeId} {a b : TE} (hB : Blk w G t #[.int .i64 a.kind, .int .i64 a.at_, .int .i64 a.n, .string a.name, v, .int .i64 b.kind, .int .i64 b.at_, .int .i64 b.n, .string b.name, u]) (hG : B ≤ G) (hsa : a.name.size ≤ maxLen) (hsb : b.name.size ≤ maxLen)
  (hv : Sl teR (low B w) v a.args) (hu : Sl teR (low B w) u b.args) : Sl teR (low B w) (.slice (some ⟨G, 0, none⟩) 2 2) [a, b] := by
 refine ⟨some ⟨G, 0, none⟩, 2, rfl, Nat.le_refl _, ⟨by simp [maxLen], fun h => by cases h⟩, fun _ => ⟨G, 0, rfl, fun i x hx => ?_⟩⟩
 match i, hx with
 | 0, hx =>
  obtain rfl : a = x := by simpa using hx
  obtain ⟨k', a', n', s', args⟩ := a
  refine ⟨_, TER.shut hsa hv, low_to (fun j u' hu' => hB.cell (i := 0 + 0 * teR.size + j) ?_) hG⟩
  match j, hu' with
  | 0, h | 1, h | 2, h | 3, h | 4, h => simpa [TE.kind, TE.at_, TE.n, TE.name] using h
  | j + 5, h => simp at h
 | 1, hx =>
  obtain rfl : b = x := by simpa using hx
  obtain ⟨k', a', n', s', args⟩ := b
  refine ⟨_, TER.shut hsb hu, low_to (fun j u' hu' => hB.cell (i := 0 + 1 * teR.size + j) ?_) hG⟩
  match j, hu' with
  | 0, h | 1, h | 2, h | 3, h | 4, h => simpa [teR, TE.kind, TE.at_, TE.n, TE.name] using h
  | j + 5, h => simp at h
 | i + 2, hx => simp at hx
end
/-- the operators differ -/
theorem op_ne : ∀ i j : Fin 7, opB i.val = opB j.val → i = j := by decide +kernel
theorem op_emp : ∀ i : Fin 7, opB i.val ≠ emp := by decide +kernel
theorem opD_some {l : List Tok} {r : RS} {i : Nat} (h : opD l r = some i) : i < 7 ∧ tx l r.1 r.2 = opB i := by
 unfold opD at h
 exact ⟨List.mem_range.1 (List.mem_of_find?_eq_some h), by have := List.find?_some h; simpa using this⟩
theorem opD_yes {l : List Tok} {r : RS} {i : Nat} (hi : i < 7) (h : tx l r.1 r.2 = opB i) : opD l r = some i := by
 cases ho : opD l r with
 | none =>
  unfold opD at ho
  rw [List.find?_eq_none] at ho
  have := ho i (List.mem_range.2 hi)
  rw [h] at this
  simp at this
 | some j =>
  obtain ⟨h1, h2⟩ := opD_some ho
  have := op_ne ⟨i, hi⟩ ⟨j, h1⟩ (h.symm.trans h2)
  rw [Fin.mk.injEq] at this
  rw [this]
/-- the kind found among the first operators -/
def opK (o : Option Nat) (k : Nat) : Int := match o with
 | some i => if i < k then 4 + (i : Int) else 0
 | none => 0
theorem opK_end {l : List Tok} {r : RS} : opK (opD l r) 7 = match opD l r with
  | none => 0
  | some i => 4 + (i : Int) := by
 cases h : opD l r with
 | none => rfl
 | some i =>
  unfold opK
  simp only []
  exact if_pos (opD_some h).1
theorem ops_cell {w : World} {G : Nat} {t : TypeId} (h : Blk w G t (opsL.map Value.string).toArray) {k : Nat} (hk : k < 7) : w.cell? ⟨G, k, none⟩ = some (.string (opB k)) := by
 refine Blk.cell h ?_
 unfold opB
 rw [List.getElem?_toArray, List.getElem?_map, List.getD_eq_getElem?_getD]
 have : k < opsL.length := hk
 rw [List.getElem?_eq_getElem this]
 rfl
section
variable {l : List Tok} {E d p : Nat} {f : Bool}
theorem exprD_deep (h : tx l p f = lparB) : exprD l E 0 (p, f) = (.mk 1 (place l E p) 0 emp [], (p, true)) := by
 unfold exprD
 rw [if_pos h]
theorem exprD_dash (h1 : tx l p f ≠ lparB) (h2 : tx l p f = dashB) : exprD l E d (p, f) = (.mk 1 (place l E p) (-(numD l (failD (decide (tx l (needD l dashB (p, f)).1 (needD l dashB (p, f)).2 = zeroB)) (needD l dashB (p, f)))).1) emp [], (numD l (failD (decide (tx l (needD l dashB (p, f)).1 (needD l dashB (p, f)).2 = zeroB)) (needD l dashB (p, f)))).2) := by
 unfold exprD
 rw [if_neg h1, if_pos h2]
theorem exprD_num (h1 : tx l p f ≠ lparB) (h2 : tx l p f ≠ dashB) (h3 : digD (tx l p f) = true) : exprD l E d (p, f) = (.mk 1 (place l E p) (numD l (p, f)).1 emp [], (numD l (p, f)).2) := by
 unfold exprD
 rw [if_neg h1, if_neg h2, if_pos h3]
theorem exprD_name (h1 : tx l p f ≠ lparB) (h2 : tx l p f ≠ dashB) (h3 : digD (tx l p f) = false) (h4 : tx l (nameD l (p, f)).2.1 (nameD l (p, f)).2.2 ≠ lsqB) : exprD l E d (p, f) = (.mk 2 (place l E p) 0 (nameD l (p, f)).1 [], (nameD l (p, f)).2) := by
 unfold exprD
 rw [if_neg h1, if_neg h2, if_neg (by rw [h3]; decide)]
 simp only []
 rw [if_neg h4]
theorem exprD_celldeep (h1 : tx l p f ≠ lparB) (h2 : tx l p f ≠ dashB) (h3 : digD (tx l p f) = false) (h4 : tx l (nameD l (p, f)).2.1 (nameD l (p, f)).2.2 = lsqB) : exprD l E 0 (p, f) = (.mk 2 (place l E p) 0 (nameD l (p, f)).1 [], ((nameD l (p, f)).2.1, true)) := by
 unfold exprD
 rw [if_neg h1, if_neg h2, if_neg (by rw [h3]; decide)]
 simp only []
 rw [if_pos h4]
theorem exprD_cell (h1 : tx l p f ≠ lparB) (h2 : tx l p f ≠ dashB) (h3 : digD (tx l p f) = false) (h4 : tx l (nameD l (p, f)).2.1 (nameD l (p, f)).2.2 = lsqB) : exprD l E (d + 1) (p, f) = (.mk 3 (place l E p) 0 (nameD l (p, f)).1 [(exprD l E d (needD l lsqB (nameD l (p, f)).2)).1], needD l rsqB (exprD l E d (needD l lsqB (nameD l (p, f)).2)).2) := by
 conv => lhs; unfold exprD
 rw [if_neg h1, if_neg h2, if_neg (by rw [h3]; decide)]
 simp only []
 rw [if_pos h4]
/-- behind an operator -/
def opS (l : List Tok) (a : RS) : RS := match opD l a with
 | none => (a.1, true)
 | some i => needD l (opB i) a
theorem exprD_pair (h : tx l p f = lparB) : exprD l E (d + 1) (p, f) = (.mk (opK (opD l (exprD l E d (needD l lparB (p, f))).2) 7) (place l E p) 0 emp [(exprD l E d (needD l lparB (p, f))).1, (exprD l E d (opS l (exprD l E d (needD l lparB (p, f))).2)).1], needD l rparB (exprD l E d (opS l (exprD l E d (needD l lparB (p, f))).2)).2) := by
 conv => lhs; unfold exprD
 rw [if_pos h, opK_end]
 rfl
end
/-- it stays within the tokens -/
theorem failD_le {l : List Tok} {c : Bool} {q : RS} (h : q.1 ≤ l.length) : (failD c q).1 ≤ l.length := by
 unfold failD
 split
 ·exact h
 ·exact h
theorem opS_le {l : List Tok} {q : RS} (h : q.1 ≤ l.length) : (opS l q).1 ≤ l.length := by
 unfold opS
 cases ho : opD l q with
 | none => exact h
 | some i => exact needD_le (op_emp ⟨i, (opD_some ho).1⟩) h
theorem exprD_le {l : List Tok} {E : Nat} (hok : ∀ t ∈ l, TokOk t) : ∀ (d : Nat) (q : RS), q.1 ≤ l.length → (exprD l E d q).2.1 ≤ l.length
 | d, (p, f), hq => by
  by_cases h1 : tx l p f = lparB
  ·cases d with
   | zero => rw [exprD_deep h1]; exact hq
   | succ d =>
    rw [exprD_pair h1]
    exact needD_le (by decide) (exprD_le hok d _ (opS_le (exprD_le hok d _ (needD_le (by decide) hq))))
  ·by_cases h2 : tx l p f = dashB
   ·rw [exprD_dash h1 h2]
    exact (numD_le hok (failD_le (needD_le (by decide) hq))).1
   ·by_cases h3 : digD (tx l p f) = true
    ·rw [exprD_num h1 h2 h3]
     exact (numD_le hok hq).1
    ·have h3 : digD (tx l p f) = false := by simpa using h3
     by_cases h4 : tx l (nameD l (p, f)).2.1 (nameD l (p, f)).2.2 = lsqB
     ·cases d with
      | zero => rw [exprD_celldeep h1 h2 h3 h4]; exact nameD_le hq
      | succ d =>
       rw [exprD_cell h1 h2 h3 h4]
       exact needD_le (by decide) (exprD_le hok d _ (needD_le (by decide) (nameD_le hq)))
     ·rw [exprD_name h1 h2 h3 h4]
      exact nameD_le hq
/-- the world with some blocks hidden -/
def mask (S : Nat → Bool) (w : World) : World := { w with heap := w.heap.mapIdx fun i o => if S i then .cells #[] 0 (0, 0) else o }
section
variable {S S' : Nat → Bool} {w w' : World}
theorem mask_at (k : Nat) : (mask S w).heap[k]? = w.heap[k]?.map fun o => if S k then .cells #[] 0 (0, 0) else o := by
 unfold mask
 exact Array.getElem?_mapIdx
theorem mask_ge {k : Nat} (h : S k = false) : (mask S w).heap[k]? = w.heap[k]? := by
 rw [mask_at]
 cases w.heap[k]? with
 | none => rfl
 | some o => simp only [Option.map_some]; rw [if_neg (by rw [h]; decide)]
theorem mask_cell {b o : Nat} {v : Value} (h : (mask S w).cell? ⟨b, o, none⟩ = some v) : S b = false ∧ w.cell? ⟨b, o, none⟩ = some v := by
 cases hb : S b with
 | true =>
  unfold World.cell? at h
  simp only [mask_at] at h
  cases hw : w.heap[b]? with
  | none => rw [hw] at h; simp at h
  | some ob => rw [hw] at h; simp [hb] at h
 | false => exact ⟨rfl, (World.cell?_of_block (mask_ge hb)).symm.trans h⟩
theorem mask_to {b o : Nat} {v : Value} (hb : S b = false) (h : w.cell? ⟨b, o, none⟩ = some v) : (mask S w).cell? ⟨b, o, none⟩ = some v := (World.cell?_of_block (mask_ge hb)).trans h
/-- what reads, reads on where the visible blocks stay -/
theorem mask_more {α : Type} {r : Rep α} (hm : More r) (h : ∀ b, S b = false → b < w.heap.size → S' b = false ∧ w'.heap[b]? = w.heap[b]?) {cs : List Value} {x : α} (hr : r.R (mask S w) cs x) : r.R (mask S' w') cs x := by
 refine hm (fun b o v hc => ?_) hr
 obtain ⟨h1, h2⟩ := mask_cell hc
 obtain ⟨h3, h4⟩ := h b h1 (lt_of_cell h2)
 exact mask_to h3 ((World.cell?_of_block h4).trans h2)
theorem low_mask {B : Nat} : low B w = mask (fun k => decide (k < B)) w := by
 unfold low mask
 congr 2
 funext i o
 by_cases h : i < B
 ·rw [if_pos h, if_pos (decide_eq_true h)]
 ·rw [if_neg h, if_neg (by simpa using h)]
end
/-- the blocks below a bound, and a row's own -/
def ownS (B : Nat) (v : Value) (k : Nat) : Bool := decide (k < B) || decide (v.ownBlock = some k)
theorem ownS_no {B : Nat} {v : Value} {k : Nat} (h : ownS B v k = false) : B ≤ k ∧ v.ownBlock ≠ some k := by
 unfold ownS at h
 simpa using h
theorem ownS_of {B : Nat} {v : Value} {k : Nat} (h1 : B ≤ k) (h2 : v.ownBlock ≠ some k) : ownS B v k = false := by
 unfold ownS
 simp [h2]
 omega
/-- a row of the call's own, each element of which reads where the row is hidden -/
def OwnL {α : Type} (r : Rep α) (e : TypeId) (B : Nat) (W : World) (v : Value) (xs : List α) : Prop :=
 ∃ cells, W.ownsRow B e r.size v xs.length cells ∧ ∀ i x, xs[i]? = some x → r.R (mask (ownS B v) W) ((cells.drop (i * r.size)).take r.size) x
section
variable {α : Type} {r : Rep α} {e : TypeId} {B : Nat} {W W' : World} {v : Value} {xs : List α}
theorem OwnL.nil (r : Rep α) (e : TypeId) (B : Nat) (W : World) : OwnL r e B W (.slice none 0 0) [] := ⟨[], World.ownsRow_nil _ _ _ _, fun i x hx => by simp at hx⟩
theorem OwnL.at_ (hm : More r) (h : OwnL r e B W v xs) {row : Option Nat} (hg : W.grownBy W' row) (hr : ∀ k, row = some k → k < B) : OwnL r e B W' v xs := by
 obtain ⟨cells, h1, h2⟩ := h
 refine ⟨cells, h1.kept hg ?_, fun i x hx => mask_more hm (fun b hb hlt => ⟨hb, hg.block b hlt fun he => ?_⟩) (h2 i x hx)⟩
 ·cases hv : v.ownBlock with
  | none => exact Or.inl rfl
  | some k =>
   refine Or.inr fun he => ?_
   have h3 := hr k he.symm
   have h4 := (h1.lt k hv).1
   omega
 ·have := hr b he.symm
  have := (ownS_no hb).1
  omega
theorem OwnL.keep (hm : More r) (h : OwnL r e B W v xs) (hb : Bel W W') : OwnL r e B W' v xs := h.at_ hm (hb.grown none) fun k hk => by cases hk
theorem OwnL.sl (hm : More r) (h : OwnL r e B W v xs) : Sl r (low B W) v xs := by
 obtain ⟨cells, h1, h2⟩ := h
 have h3 : (low B W).ownsRow B e r.size v xs.length cells := by
  refine ⟨h1.1, ?_⟩
  rcases h1.2 with hn | ⟨g, cap, cur, h4, h5, h6, h7⟩
  ·exact .inl hn
  ·exact .inr ⟨g, cap, cur, h4, h5, by rw [low_ge h5]; exact h6, h7⟩
 refine Sl.own h3 rfl fun k x hx => ?_
 rw [low_mask]
 refine mask_more hm (fun b hb _ => ⟨?_, rfl⟩) (h2 k x hx)
 have := (ownS_no hb).1
 simpa using this
theorem OwnL.push (hm : More r) {v' : Value} {cells cs : List Value} {x : α} {C : Nat} (h1 : W.ownsRow B e r.size v xs.length cells) (h2 : ∀ i x, xs[i]? = some x → r.R (mask (ownS B v) W) ((cells.drop (i * r.size)).take r.size) x) (h3 : W'.ownsRow B e r.size v' (xs.length + 1) (cells ++ cs))
  (hg : W.grownBy W' v.ownBlock) (hv : v.ownBlock = v'.ownBlock ∨ ∀ k, v'.ownBlock = some k → W.heap.size ≤ k) (hx : r.R (low C W) cs x) (hC : B ≤ C) (hCv : ∀ k, v.ownBlock = some k → k < C) : OwnL r e B W' v' (xs ++ [x]) := by
 have hl := r.len hx
 have hlen : cells.length = xs.length * r.size := h1.1
 have hh : ∀ b, b < W.heap.size → v.ownBlock ≠ some b → B ≤ b → ownS B v' b = false ∧ W'.heap[b]? = W.heap[b]? := fun b hlt hne hB => by
  refine ⟨ownS_of hB fun he => ?_, hg.block b hlt fun e => hne e.symm⟩
  rcases hv with hv | hv
  ·exact hne (hv.trans he)
  ·have := hv b he
   omega
 refine ⟨cells ++ cs, ?_, fun i y hy => ?_⟩
 ·rw [List.length_append]
  exact h3
 ·rcases Nat.lt_or_ge i xs.length with hi | hi
  ·rw [List.getElem?_append_left hi] at hy
   have h3' := h2 i y hy
   have h4 : ((cells ++ cs).drop (i * r.size)).take r.size = (cells.drop (i * r.size)).take r.size := by
    have h5 : (i + 1) * r.size ≤ xs.length * r.size := Nat.mul_le_mul_right _ hi
    rw [Nat.add_mul, Nat.one_mul] at h5
    rw [List.drop_append_of_le_length (by omega), List.take_append_of_le_length (by rw [List.length_drop]; omega)]
   rw [h4]
   refine mask_more hm (fun b hb hlt => ?_) h3'
   obtain ⟨h5, h6⟩ := ownS_no hb
   exact hh b hlt h6 h5
  ·rw [List.getElem?_append_right hi] at hy
   have h3 : i = xs.length := by
    have := (List.getElem?_eq_some_iff.1 hy).1
    simp at this
    omega
   subst h3
   simp at hy
   subst hy
   have h4 : ((cells ++ cs).drop (xs.length * r.size)).take r.size = cs := by
    rw [← hlen, List.drop_left, List.take_of_length_le (by omega)]
   rw [h4]
   rw [low_mask] at hx
   refine mask_more hm (fun b hb hlt => ?_) hx
   have h5 : C ≤ b := by simpa using hb
   exact hh b hlt (fun he => by have := hCv b he; omega) (by omega)
end
theorem tcR_more : More tcR := by
 intro X Y hc cs x (h : TCR X x cs)
 show TCR Y x cs
 have hF : ∀ {v : Value} {n size : Nat} {f : Nat → List Value}, SlF X v n size f → SlF Y v n size f := fun ⟨A, c, h1, h2, h3, h4⟩ => ⟨A, c, h1, h2, h3, fun hp => by
  obtain ⟨b, o, hA, hx⟩ := h4 hp
  exact ⟨b, o, hA, fun i hi j u hu => hc _ _ _ (hx i hi j u hu)⟩⟩
 induction h with
 | mk k a s t i e args thn els ci ce va vt ve ft fe hs ht hi he ha hvt hft hve hfe ih1 ih2 =>
  exact .mk k a s t i e args thn els ci ce va vt ve ft fe hs ht (teR_more hc hi) (teR_more hc he) (ha.more teR_more hc) (hF hvt) ih1 (hF hve) ih2
theorem tvR_more : More tvR := by
 intro X Y _ cs x h
 exact h
theorem nmR_more : More nmR := by
 intro X Y _ cs x h
 exact h
end Go.Proofs.YtmfjlcpjemccmaaGreatDoor
