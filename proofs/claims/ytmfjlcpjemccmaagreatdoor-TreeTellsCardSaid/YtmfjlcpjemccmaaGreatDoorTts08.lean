/- Lists that a call makes by appending, whose elements lie elsewhere in new memory. The document's reader of variables: walked. Each lemma states its own conditions. -/
import Derived.Test.YtmfjlcpjemccmaaGreatDoorTts07
import Derived.Test.YtmfjlcpjemccmaaGreatDoorTts01
namespace Go.Proofs.YtmfjlcpjemccmaaGreatDoor
open Go.RowKit
/-- the world with some blocks hidden -/
def mask (S : Nat → Bool) (w : World) : World := { w with heap := w.heap.mapIdx fun i o => if S i then .cells #[] 0 (0, 0) else o }
section
variable {S S' : Nat → Bool} {w w' : World}
theorem mask_at (k : Nat) : (mask S w).heap[k]? = w.heap[k]?.map fun o => if S k then .cells #[] 0 (0, 0) else o := by
 unfold mask
 exact Array.getElem?_mapIdx
theorem mask_ge {k : Nat} (h : S k = false) : (mask S w).heap[k]? = w.heap[k]? := by
 rw [mask_at]
 cases w.heap[k]? with
 | none => rfl
 | some o => simp only [Option.map_some]; rw [if_neg (by rw [h]; decide)]
theorem mask_cell {b o : Nat} {v : Value} (h : (mask S w).cell? ⟨b, o, none⟩ = some v) : S b = false ∧ w.cell? ⟨b, o, none⟩ = some v := by
 cases hb : S b with
 | true =>
  unfold World.cell? at h
  simp only [mask_at] at h
  cases hw : w.heap[b]? with
  | none => rw [hw] at h; simp at h
  | some ob => rw [hw] at h; simp [hb] at h
 | false => exact ⟨rfl, (World.cell?_of_block (mask_ge hb)).symm.trans h⟩
theorem mask_to {b o : Nat} {v : Value} (hb : S b = false) (h : w.cell? ⟨b, o, none⟩ = some v) : (mask S w).cell? ⟨b, o, none⟩ = some v := (World.cell?_of_block (mask_ge hb)).trans h
/-- what reads, reads on where the visible blocks stay -/
theorem mask_more {α : Type} {r : Rep α} (hm : More r) (h : ∀ b, S b = false → b < w.heap.size → S' b = false ∧ w'.heap[b]? = w.heap[b]?) {cs : List Value} {x : α} (hr : r.R (mask S w) cs x) : r.R (mask S' w') cs x := by
 refine hm (fun b o v hc => ?_) hr
 obtain ⟨h1, h2⟩ := mask_cell hc
 obtain ⟨h3, h4⟩ := h b h1 (lt_of_cell h2)
 exact mask_to h3 ((World.cell?_of_block h4).trans h2)
theorem low_mask {B : Nat} : low B w = mask (fun k => decide (k < B)) w := by
 unfold low mask
 congr 2
 funext i o
 by_cases h : i < B
 ·rw [if_pos h, if_pos (decide_eq_true h)]
 ·rw [if_neg h, if_neg (by simpa using h)]
end
/-- the blocks below a bound, and a row's own -/
def ownS (B : Nat) (v : Value) (k : Nat) : Bool := decide (k < B) || decide (v.ownBlock = some k)
theorem ownS_no {B : Nat} {v : Value} {k : Nat} (h : ownS B v k = false) : B ≤ k ∧ v.ownBlock ≠ some k := by
 unfold ownS at h
 simpa using h
theorem ownS_of {B : Nat} {v : Value} {k : Nat} (h1 : B ≤ k) (h2 : v.ownBlock ≠ some k) : ownS B v k = false := by
 unfold ownS
 simp [h2]
 omega
/-- a row of the call's own, each element of which reads where the row is hidden -/
def OwnL {α : Type} (r : Rep α) (e : TypeId) (B : Nat) (W : World) (v : Value) (xs : List α) : Prop :=
 ∃ cells, W.ownsRow B e r.size v xs.length cells ∧ ∀ i x, xs[i]? = some x → r.R (mask (ownS B v) W) ((cells.drop (i * r.size)).take r.size) x
section
variable {α : Type} {r : Rep α} {e : TypeId} {B : Nat} {W W' : World} {v : Value} {xs : List α}
theorem OwnL.nil (r : Rep α) (e : TypeId) (B : Nat) (W : World) : OwnL r e B W (.slice none 0 0) [] := ⟨[], World.ownsRow_nil _ _ _ _, fun i x hx => by simp at hx⟩
theorem OwnL.at_ (hm : More r) (h : OwnL r e B W v xs) {row : Option Nat} (hg : W.grownBy W' row) (hr : ∀ k, row = some k → k < B) : OwnL r e B W' v xs := by
 obtain ⟨cells, h1, h2⟩ := h
 refine ⟨cells, h1.kept hg ?_, fun i x hx => mask_more hm (fun b hb hlt => ⟨hb, hg.block b hlt fun he => ?_⟩) (h2 i x hx)⟩
 ·cases hv : v.ownBlock with
  | none => exact Or.inl rfl
  | some k =>
   refine Or.inr fun he => ?_
   have h3 := hr k he.symm
   have h4 := (h1.lt k hv).1
   omega
 ·have := hr b he.symm
  have := (ownS_no hb).1
  omega
theorem OwnL.keep (hm : More r) (h : OwnL r e B W v xs) (hb : Bel W W') : OwnL r e B W' v xs := h.at_ hm (hb.grown none) fun k hk => by cases hk
theorem OwnL.sl (hm : More r) (h : OwnL r e B W v xs) : Sl r (low B W) v xs := by
 obtain ⟨cells, h1, h2⟩ := h
 have h3 : (low B W).ownsRow B e r.size v xs.length cells := by
  refine ⟨h1.1, ?_⟩
  rcases h1.2 with hn | ⟨g, cap, cur, h4, h5, h6, h7⟩
  ·exact .inl hn
  ·exact .inr ⟨g, cap, cur, h4, h5, by rw [low_ge h5]; exact h6, h7⟩
 refine Sl.own h3 rfl fun k x hx => ?_
 rw [low_mask]
 refine mask_more hm (fun b hb _ => ⟨?_, rfl⟩) (h2 k x hx)
 have := (ownS_no hb).1
 simpa using this
theorem OwnL.push (hm : More r) {v' : Value} {cells cs : List Value} {x : α} {C : Nat} (h1 : W.ownsRow B e r.size v xs.length cells) (h2 : ∀ i x, xs[i]? = some x → r.R (mask (ownS B v) W) ((cells.drop (i * r.size)).take r.size) x) (h3 : W'.ownsRow B e r.size v' (xs.length + 1) (cells ++ cs))
  (hg : W.grownBy W' v.ownBlock) (hv : v.ownBlock = v'.ownBlock ∨ ∀ k, v'.ownBlock = some k → W.heap.size ≤ k) (hx : r.R (low C W) cs x) (hC : B ≤ C) (hCv : ∀ k, v.ownBlock = some k → k < C) : OwnL r e B W' v' (xs ++ [x]) := by
 have hl := r.len hx
 have hlen : cells.length = xs.length * r.size := h1.1
 have hh : ∀ b, b < W.heap.size → v.ownBlock ≠ some b → B ≤ b → ownS B v' b = false ∧ W'.heap[b]? = W.heap[b]? := fun b hlt hne hB => by
  refine ⟨ownS_of hB fun he => ?_, hg.block b hlt fun e => hne e.symm⟩
  rcases hv with hv | hv
  ·exact hne (hv.trans he)
  ·have := hv b he
   omega
 refine ⟨cells ++ cs, ?_, fun i y hy => ?_⟩
 ·rw [List.length_append]
  exact h3
 ·rcases Nat.lt_or_ge i xs.length with hi | hi
  ·rw [List.getElem?_append_left hi] at hy
   have h3' := h2 i y hy
   have h4 : ((cells ++ cs).drop (i * r.size)).take r.size = (cells.drop (i * r.size)).take r.size := by
    have h5 : (i + 1) * r.size ≤ xs.length * r.size := Nat.mul_le_mul_right _ hi
    rw [Nat.add_mul, Nat.one_mul] at h5
    rw [List.drop_append_of_le_length (by omega), List.take_append_of_le_length (by rw [List.length_drop]; omega)]
   rw [h4]
   refine mask_more hm (fun b hb hlt => ?_) h3'
   obtain ⟨h5, h6⟩ := ownS_no hb
   exact hh b hlt h6 h5
  ·rw [List.getElem?_append_right hi] at hy
   have h3 : i = xs.length := by
    have := (List.getElem?_eq_some_iff.1 hy).1
    simp at this
    omega
   subst h3
   simp at hy
   subst hy
   have h4 : ((cells ++ cs).drop (xs.length * r.size)).take r.size = cs := by
    rw [← hlen, List.drop_left, List.take_of_length_le (by omega)]
   rw [h4]
   rw [low_mask] at hx
   refine mask_more hm (fun b hb hlt => ?_) hx
   have h5 : C ≤ b := by simpa using hb
   exact hh b hlt (fun he => by have := hCv b he; omega) (by omega)
end
theorem tcR_more : More tcR := by
 intro X Y hc cs x (h : TCR X x cs)
 show TCR Y x cs
 have hF : ∀ {v : Value} {n size : Nat} {f : Nat → List Value}, SlF X v n size f → SlF Y v n size f := fun ⟨A, c, h1, h2, h3, h4⟩ => ⟨A, c, h1, h2, h3, fun hp => by
  obtain ⟨b, o, hA, hx⟩ := h4 hp
  exact ⟨b, o, hA, fun i hi j u hu => hc _ _ _ (hx i hi j u hu)⟩⟩
 induction h with
 | mk k a s t i e args thn els ci ce va vt ve ft fe hs ht hi he ha hvt hft hve hfe ih1 ih2 =>
  exact .mk k a s t i e args thn els ci ce va vt ve ft fe hs ht (teR_more hc hi) (teR_more hc he) (ha.more teR_more hc) (hF hvt) ih1 (hF hve) ih2
theorem tvR_more : More tvR := by
 intro X Y _ cs x h
 exact h
theorem nmR_more : More nmR := by
 intro X Y _ cs x h
 exact h
/-- how long a slice is -/
def lenV : Value → Nat
 | .slice _ n _ => n
 | _ => 0
theorem OwnL.len {α : Type} {r : Rep α} {e : TypeId} {B : Nat} {W : World} {v : Value} {xs : List α} (h : OwnL r e B W v xs) : lenV v = xs.length := by
 obtain ⟨cells, h1, -⟩ := h
 rcases h1.2 with ⟨rfl, h2⟩ | ⟨g, cap, cur, rfl, -⟩
 ·exact h2.symm
 ·rfl
theorem OwnL.slice {α : Type} {r : Rep α} {e : TypeId} {B : Nat} {W : World} {v : Value} {xs : List α} (h : OwnL r e B W v xs) : ∃ A c, v = .slice A xs.length c := by
 obtain ⟨cells, h1, -⟩ := h
 rcases h1.2 with ⟨rfl, h2⟩ | ⟨g, cap, cur, rfl, -⟩
 ·exact ⟨none, 0, by rw [h2]⟩
 ·exact ⟨_, cap, rfl⟩
theorem elTV : Elem Tryz.prog 45 55 2 24 := Elem.mk_ (z := .agg #[.string ⟨#[]⟩, .int .i64 0]) (by kernel_rfl) (by kernel_rfl) rfl (by decide)
section
variable {l : List Tok} {n : Nat} {q : RS}
/-- one variable -/
def varD (l : List Tok) (q : RS) : TV × RS :=
 let m := nameD l (needD l (tx l q.1 q.2) q)
 let k := if tx l q.1 q.2 = arrB then numD l (failD (decide (tx l m.2.1 m.2.2 = zeroB)) m.2) else (0, m.2)
 (⟨m.1, k.1⟩, needD l semiB k.2)
theorem varsD_go (h1 : q.2 = false) (h2 : tx l q.1 q.2 = varB ∨ tx l q.1 q.2 = arrB) : varsD l (n + 1) q = ((varD l q).1 :: (varsD l n (varD l q).2).1, (varsD l n (varD l q).2).2) := by
 rw [varsD, if_pos ⟨h1, h2⟩]
 unfold varD
 by_cases ha : tx l q.1 q.2 = arrB
 ·simp only [ha, decide_true, if_true]
 ·simp only [ha, decide_false, if_false, Bool.false_eq_true]
theorem varsD_stop (h : ¬ (q.2 = false ∧ (tx l q.1 q.2 = varB ∨ tx l q.1 q.2 = arrB))) : varsD l n q = ([], q) := by
 cases n with
 | zero => rfl
 | succ n => rw [varsD, if_neg h]
end
theorem needD_go {l : List Tok} {s : ByteArray} {q : RS} (h : q.2 = false) (hs : tx l q.1 q.2 = s) : needD l s q = (q.1 + 1, false) := by
 obtain ⟨p, f⟩ := q
 obtain rfl : f = false := h
 unfold needD
 rw [if_neg (by simp), if_pos hs]
theorem needD_ge {l : List Tok} {s : ByteArray} {q : RS} : q.1 ≤ (needD l s q).1 := by
 unfold needD
 split
 ·exact Nat.le_refl _
 ·split
  ·exact Nat.le_succ _
  ·exact Nat.le_refl _
theorem nameD_ge {l : List Tok} {q : RS} : q.1 ≤ (nameD l q).2.1 := by
 unfold nameD
 split
 ·exact Nat.le_succ _
 ·exact Nat.le_refl _
theorem numD_ge {l : List Tok} {q : RS} : q.1 ≤ (numD l q).2.1 := by
 unfold numD
 split
 ·exact Nat.le_succ _
 ·exact Nat.le_refl _
theorem failD_ge {c : Bool} {q : RS} : (failD c q).1 = q.1 := by
 unfold failD
 split <;> rfl
theorem varD_le {l : List Tok} {q : RS} (hok : ∀ t ∈ l, TokOk t) (h1 : q.2 = false) (h2 : tx l q.1 q.2 = varB ∨ tx l q.1 q.2 = arrB) (h : q.1 ≤ l.length) : q.1 < (varD l q).2.1 ∧ (varD l q).2.1 ≤ l.length := by
 have he : tx l q.1 q.2 ≠ emp := by rcases h2 with h2 | h2 <;> rw [h2] <;> decide
 have h3 := needD_go h1 (rfl : tx l q.1 q.2 = tx l q.1 q.2)
 have h4 := needD_le (l := l) he h
 unfold varD
 simp only []
 generalize needD l (tx l q.1 q.2) q = a at *
 have h5 := nameD_ge (l := l) (q := a)
 have h6 := nameD_le (l := l) (q := a) h4
 generalize nameD l a = b at *
 have h7 : q.1 < b.2.1 := by rw [h3] at h5; dsimp only at h5; omega
 split
 ·have h8 := numD_ge (l := l) (q := failD (decide (tx l b.2.1 b.2.2 = zeroB)) b.2)
  have h9 := (numD_le (q := failD (decide (tx l b.2.1 b.2.2 = zeroB)) b.2) hok (failD_le h6)).1
  rw [failD_ge] at h8
  have := needD_ge (l := l) (s := semiB) (q := (numD l (failD (decide (tx l b.2.1 b.2.2 = zeroB)) b.2)).2)
  exact ⟨by omega, needD_le (by decide) h9⟩
 ·have := needD_ge (l := l) (s := semiB) (q := b.2)
  exact ⟨by dsimp only at *; omega, needD_le (by decide) h6⟩
end Go.Proofs.YtmfjlcpjemccmaaGreatDoor
