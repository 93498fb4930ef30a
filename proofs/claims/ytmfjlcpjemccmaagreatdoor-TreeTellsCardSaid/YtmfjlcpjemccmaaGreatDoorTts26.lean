/- An append in a drawn region as a law; a row whose last element is written behind an append of an empty one. Each lemma states its own conditions. -/
import Derived.Test.YtmfjlcpjemccmaaGreatDoorTts25
namespace Go.Proofs.YtmfjlcpjemccmaaGreatDoor
open Go.RowKit
section
variable {P : Program} {ops : Array Oper} {Q : Exit → Act → World → Prop} {md : Region.Mode} {S : World → Prop} {fuel : Nat} {listed : Array Bool} {a : Act}
/-- one operation may come up: 'append(xs, x)', the one-element row laid just before -/
theorem rt_app {i : Nat} (d : Option Tmp) {o : Oper} (hr : Region.ready md ops listed = [i]) (hi : ops[i]? = some o) (hd : o.dst = d) (W : World) (s x : Operand) (t : TypeId) (hgd : o.guard = none)
  (ho : o.op = .call { callee := .builtin .append, args := #[s, x], argTypes := #[t, t] }) (base : Nat) {e : TypeId} {size bytes : Nat} (E : Elem P t e size bytes)
  (v : Value) (n : Nat) (xs : List Value) (hs : a.eval s = v) (hown : W.ownsRow base e size v n xs) (cs : List Value) (hx : a.eval x = .slice (some ⟨W.heap.size, 0, none⟩) 1 1)
  (hl : cs.length = size) (h1 : ∀ u ∈ cs, u.oneCell' = true) (h63 : n + 1 ≤ maxLen) (hbytes : (n + 1) * bytes ≤ 140737488355328) (hbase : base ≤ W.heap.size)
  (h : ∀ g cap w', w'.ownsRow base e size (.slice (some ⟨g, 0, none⟩) (n + 1) cap) (n + 1) (xs ++ cs) → W.grownBy w' v.ownBlock → (v.ownBlock = some g ∨ W.heap.size ≤ g) →
   S w' ∧ (S w' → wpAnyH P md ops Q S fuel (listed.setIfInBounds i true) (a.put d (.slice (some ⟨g, 0, none⟩) (n + 1) cap)) w')) : wpAnyH P md ops Q S (fuel + 1) listed a (W.alloc (.cells cs.toArray e)) := by
 subst hd
 refine wpAnyH_ready hr (by simp) (AllReadyH.cons hi (fun K hK => ?_) AllReadyH.nil)
 exact step_app W hgd s x t ho base E v n xs hs hown cs W.heap.size rfl hx hl h1 h63 hbytes hbase (fun g cap w' h2 h3 h4 => hK.out _ _ (h g cap w' h2 h3 h4).1 (h g cap w' h2 h3 h4).2) rfl
end
section
variable {o : Oper} {ρ : Operand → Value} {W : World} {x y : Operand} {b f : Nat} {v u : Value}
theorem rs_es {A : Option Addr} {n c : Nat} (ho : o.op = .store 47 x y) (hx : ρ x = .pointer (some ⟨b, f, none⟩)) (hy : ρ y = .slice A n c) (hc : W.cell? ⟨b, f, none⟩ = some u) (hf : W.frozen? ⟨b, f, none⟩ = false) : (execOp ρ o).run Tryz.prog W = .ok .skip (W.setCell ⟨b, f, none⟩ (.slice A n c)) := by
 simp [execOp, ho, hx, hy, hc, hf, go_sem]
end
/-- a row of the call's own has one more element, as all its older blocks stay -/
theorem OwnL.push2 {α : Type} {r : Rep α} {e : TypeId} {B : Nat} {W W' : World} {v v' : Value} {xs : List α} {x : α} {cells cs : List Value} {C : Nat} (hm : More r) (h1 : W.ownsRow B e r.size v xs.length cells) (h2 : ∀ i x, xs[i]? = some x → r.R (mask (ownS B v) W) ((cells.drop (i * r.size)).take r.size) x) (h3 : W'.ownsRow B e r.size v' (xs.length + 1) (cells ++ cs))
  (hg : ∀ b, b < W.heap.size → B ≤ b → v.ownBlock ≠ some b → W'.heap[b]? = W.heap[b]?) (hv : v.ownBlock = v'.ownBlock ∨ ∀ k, v'.ownBlock = some k → W.heap.size ≤ k) (hx : r.R (low C W) cs x) (hC : B ≤ C) (hCv : ∀ k, v.ownBlock = some k → k < C) : OwnL r e B W' v' (xs ++ [x]) := by
 have hl := r.len hx
 have hlen : cells.length = xs.length * r.size := h1.1
 have hh : ∀ b, b < W.heap.size → v.ownBlock ≠ some b → B ≤ b → ownS B v' b = false ∧ W'.heap[b]? = W.heap[b]? := fun b hlt hne hB => by
  refine ⟨ownS_of hB fun he => ?_, hg b hlt hB hne⟩
  rcases hv with hv | hv
  ·exact hne (hv.trans he)
  ·have := hv b he
   omega
 refine ⟨cells ++ cs, ?_, fun i y hy => ?_⟩
 ·rw [List.length_append]
  exact h3
 ·rcases Nat.lt_or_ge i xs.length with hi | hi
  ·rw [List.getElem?_append_left hi] at hy
   have h3' := h2 i y hy
   have h4 : ((cells ++ cs).drop (i * r.size)).take r.size = (cells.drop (i * r.size)).take r.size := by
    have h5 : (i + 1) * r.size ≤ xs.length * r.size := Nat.mul_le_mul_right _ hi
    rw [Nat.add_mul, Nat.one_mul] at h5
    rw [List.drop_append_of_le_length (by omega), List.take_append_of_le_length (by rw [List.length_drop]; omega)]
   rw [h4]
   refine mask_more hm (fun b hb hlt => ?_) h3'
   obtain ⟨h5, h6⟩ := ownS_no hb
   exact hh b hlt h6 h5
  ·rw [List.getElem?_append_right hi] at hy
   have h3 : i = xs.length := by
    have := (List.getElem?_eq_some_iff.1 hy).1
    simp at this
    omega
   subst h3
   simp at hy
   subst hy
   have h4 : ((cells ++ cs).drop (xs.length * r.size)).take r.size = cs := by
    rw [← hlen, List.drop_left, List.take_of_length_le (by omega)]
   rw [h4]
   rw [low_mask] at hx
   refine mask_more hm (fun b hb hlt => ?_) hx
   have h5 : C ≤ b := by simpa using hb
   exact hh b hlt (fun he => by have := hCv b he; omega) (by omega)
/-- five cells of the last element are written -/
theorem set5 {α : Type} {cells : List α} {z0 z1 z2 z3 z4 : α} (a b c d e : α) {n : Nat} (h : cells.length = n) : (((((cells ++ [z0, z1, z2, z3, z4]).set n a).set (n + 1) b).set (n + 2) c).set (n + 3) d).set (n + 4) e = cells ++ [a, b, c, d, e] := by
 subst h
 induction cells with
 | nil => rfl
 | cons x xs ih => simp
end Go.Proofs.YtmfjlcpjemccmaaGreatDoor
