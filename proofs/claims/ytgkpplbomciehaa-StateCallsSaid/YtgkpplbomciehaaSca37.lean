/- The small program and its trace: walked. What must be in any case of traces: walked. TraceMore: walked. Each lemma states its own conditions. -/
import Derived.Test.YtgkpplbomciehaaSca36
import Derived.Test.YtgkpplbomciehaaSca34
namespace Go.Proofs.Ytgkpplbomciehaa
open Go.RowKit
/-- a whole block read as a slice -/
theorem Sl.row {α : Type} {r : Rep α} {w : World} {g : Nat} {t : TypeId} {cs : Array Value} (h : Blk w g t cs) (xs : List α) (hs : cs.size = xs.length * r.size) (hm : xs.length ≤ maxLen)
    (hR : ∀ k x, xs[k]? = some x → r.R w ((cs.toList.drop (k * r.size)).take r.size) x) : Sl r w (.slice (some ⟨g, 0, none⟩) xs.length xs.length) xs := by
  refine Sl.own (base := 0) (e := t) (cells := cs.toList) ⟨by rw [Array.length_toList]; exact hs, .inr ⟨g, xs.length, cs, rfl, Nat.zero_le _, h, Nat.le_refl _, hm, hs, ?_⟩⟩ rfl hR
  rw [List.take_of_length_le]
  rw [Array.length_toList]
  exact Nat.le_of_eq hs
def noE : PE := .mk 0 0 []
def smallPs : List PF := [⟨0, [0], [.mk 4 0 0 noE noE [] [] [], .mk 5 0 0 noE (.mk 2 0 []) [] [] []], noE⟩]
theorem small_sl {W : World} {b1 b2 b3 : Nat} (h1 : Blk W b1 INT #[.int .i64 0]) (h2 : Blk W b2 CMT #[.int .i64 4, .int .i64 0, .int .i64 0, .int .i64 0, .int .i64 0, .slice none 0 0, .int .i64 0, .int .i64 0, .slice none 0 0, .slice none 0 0, .slice none 0 0, .slice none 0 0, .int .i64 5, .int .i64 0, .int .i64 0, .int .i64 0, .int .i64 0, .slice none 0 0, .int .i64 2, .int .i64 0, .slice none 0 0, .slice none 0 0, .slice none 0 0, .slice none 0 0])
    (h3 : Blk W b3 FNT #[.int .i64 0, .slice (some ⟨b1, 0, none⟩) 1 1, .slice (some ⟨b2, 0, none⟩) 2 2, .int .i64 0, .int .i64 0, .slice none 0 0]) : Sl pfR W (.slice (some ⟨b3, 0, none⟩) 1 1) smallPs := by
  have n1 : Sl peR W (.slice none 0 0) [] := Sl.nil_ _ _
  have n2 : Sl pcR W (.slice none 0 0) [] := Sl.nil_ _ _
  refine Sl.row h3 smallPs rfl (by decide) fun k x hx => ?_
  have hk : k = 0 := by have := (List.getElem?_eq_some_iff.1 hx).1; simp [smallPs] at this; exact this
  subst hk
  obtain rfl := Option.some.inj hx
  refine ⟨.slice (some ⟨b1, 0, none⟩) 1 1, .slice (some ⟨b2, 0, none⟩) 2 2, .slice none 0 0, rfl, ?_, ?_, n1⟩
  · exact Sl.row (r := intR) h1 [0] rfl (by decide) fun k x hx => by
      have hk : k = 0 := by have := (List.getElem?_eq_some_iff.1 hx).1; simp at this; exact this
      subst hk
      obtain rfl := Option.some.inj hx
      rfl
  · refine Sl.row (r := pcR) h2 [.mk 4 0 0 noE noE [] [] [], .mk 5 0 0 noE (.mk 2 0 []) [] [] []] rfl (by decide) fun k x hx => ?_
    have hk : k = 0 ∨ k = 1 := by have := (List.getElem?_eq_some_iff.1 hx).1; simp at this; omega
    rcases hk with rfl | rfl
    · obtain rfl := Option.some.inj hx
      exact PCR.shut (i := noE) (e := noE) n1 n1 n1 n2 n2
    · obtain rfl := Option.some.inj hx
      exact PCR.shut (i := noE) (e := .mk 2 0 []) n1 n1 n1 n2 n2
set_option maxRecDepth 20000 in
set_option maxHeartbeats 4000000 in
theorem small_any (w : World) : Calls Try.prog 58 #[] w fun r w' => ∃ v, r = .returned (.agg #[v]) ∧ Sl pfR w' v smallPs ∧ Bel w w' := by
  go_enter Try.func58, Try.ntmps58
  go_wp2
  generalize hW0 : w.alloc (.cells #[.slice (some ⟨w.heap.size + 1 + 1 + 1, 0, none⟩) 1 1] PGT) = W0 at *
  have k0 : Blk W0 w.heap.size PGT #[.slice (some ⟨w.heap.size + 1 + 1 + 1, 0, none⟩) 1 1] := by rw [← hW0]; exact Blk.new _ _ _
  have s0 : W0.heap.size = w.heap.size + 1 := by rw [← hW0]; exact alloc_size _ _
  have b0 : Bel w W0 := by rw [← hW0]; exact (Bel.rfl_ w).al _
  generalize hW1 : W0.alloc (.cells #[.int .i64 0] INT) = W1 at *
  have k1 : Blk W1 (w.heap.size + 1) INT #[.int .i64 0] := by rw [← hW1, ← s0]; exact Blk.new _ _ _
  have s1 : W1.heap.size = w.heap.size + 1 + 1 := by rw [← hW1, alloc_size, s0]
  have b1 : Bel W0 W1 := by rw [← hW1]; exact (Bel.rfl_ W0).al _
  generalize hW2 : W1.alloc (.cells #[.int .i64 4, .int .i64 0, .int .i64 0, .int .i64 0, .int .i64 0, .slice none 0 0, .int .i64 0, .int .i64 0, .slice none 0 0, .slice none 0 0, .slice none 0 0, .slice none 0 0, .int .i64 5, .int .i64 0, .int .i64 0, .int .i64 0, .int .i64 0, .slice none 0 0, .int .i64 2, .int .i64 0, .slice none 0 0, .slice none 0 0, .slice none 0 0, .slice none 0 0] CMT) = W2 at *
  have k2 : Blk W2 (w.heap.size + 1 + 1) CMT #[.int .i64 4, .int .i64 0, .int .i64 0, .int .i64 0, .int .i64 0, .slice none 0 0, .int .i64 0, .int .i64 0, .slice none 0 0, .slice none 0 0, .slice none 0 0, .slice none 0 0, .int .i64 5, .int .i64 0, .int .i64 0, .int .i64 0, .int .i64 0, .slice none 0 0, .int .i64 2, .int .i64 0, .slice none 0 0, .slice none 0 0, .slice none 0 0, .slice none 0 0] := by rw [← hW2, ← s1]; exact Blk.new _ _ _
  have s2 : W2.heap.size = w.heap.size + 1 + 1 + 1 := by rw [← hW2, alloc_size, s1]
  have b2 : Bel W1 W2 := by rw [← hW2]; exact (Bel.rfl_ W1).al _
  generalize hW3 : W2.alloc (.cells #[.int .i64 0, .slice (some ⟨w.heap.size + 1, 0, none⟩) 1 1, .slice (some ⟨w.heap.size + 1 + 1, 0, none⟩) 2 2, .int .i64 0, .int .i64 0, .slice none 0 0] FNT) = W3 at *
  have k3 : Blk W3 (w.heap.size + 1 + 1 + 1) FNT #[.int .i64 0, .slice (some ⟨w.heap.size + 1, 0, none⟩) 1 1, .slice (some ⟨w.heap.size + 1 + 1, 0, none⟩) 2 2, .int .i64 0, .int .i64 0, .slice none 0 0] := by rw [← hW3, ← s2]; exact Blk.new _ _ _
  have b3 : Bel W2 W3 := by rw [← hW3]; exact (Bel.rfl_ W2).al _
  have hsl := small_sl (k1.keep (b2.tr b3)) (k2.keep b3) k3
  have k0' := k0.keep (b1.tr (b2.tr b3))
  have hbel := b0.tr (b1.tr (b2.tr b3))
  generalize w.heap.size = Q at *
  exact bodyPost_ret (v := .agg #[.slice (some ⟨Q + 1 + 1 + 1, 0, none⟩) 1 1]) (by have c0 := k0'.cell (i := 0) rfl; simp [results, c0, go_sem]) rfl ⟨_, rfl, hsl, hbel⟩
def smallT : List Ev := [⟨1, 0, 0, 0, 0, 0⟩, ⟨3, 0, 0, 0, 0, 7⟩, ⟨2, 0, 0, 0, 0, 7⟩, ⟨1, 0, 1, 0, 0, 0⟩, ⟨4, 0, 1, 0, 0, 7⟩, ⟨7, 0, -1, 0, 0, 0⟩]
theorem smallTrace_any (w : World) : Calls Try.prog 72 #[] w fun r w' => ∃ u, r = .returned u ∧ w'.ownsRow w.heap.size EVT 6 u smallT.length (evC smallT) ∧ Bel w w' := by
  go_enter Try.func72, Try.ntmps72
  go_wp2
  go_ret
  refine ⟨_, rfl, ⟨rfl, .inr ⟨_, 6, _, rfl, Nat.le_refl _, Blk.new w EVT _, Nat.le_refl _, by decide, rfl, rfl⟩⟩, (Bel.rfl_ w).al _⟩
theorem small_ok : errP smallPs = 0 := by decide +kernel
theorem small_ran : Ran smallPs [7] 9 smallT := ⟨Mc.iter smallPs 9 3 (startM smallPs [7]), ⟨3, rfl⟩, by decide +kernel, by decide +kernel⟩
section
variable {P : Program} {md : Region.Mode} {ops : Array Oper} {Q : Exit → Act → World → Prop} {S : World → Prop} {fuel : Nat} {listed : Array Bool} {a : Act} {w : World} {i : Nat}
/-- an operation comes up, yields a value and leaves a world -/
theorem st_to (d : Option Tmp) {o : Oper} (hi : ops[i]? = some o) (hd : o.dst = d) (hw : Region.wanted o (yielded ops a.tmps) = true) (v : Value) (w' : World) (hrun : (execOp a.eval o).run P w = .ok (.value v) w')
    (hS : S w') (h : wpAnyH P md ops Q S fuel (listed.setIfInBounds i true) (a.put d v) w') : StepAt P md ops Q S fuel listed a w i :=
  wpOp_step hi fun _ hK => by
    subst hd
    rw [if_pos hw]
    unfold Oper.wp
    rw [hrun, Oper.upon_value]
    exact hK _ _ ⟨hS, h⟩
end
theorem flatMap_get {α : Type} {enc : α → List Value} {s : Nat} (hs : ∀ x, (enc x).length = s) : ∀ (xs : List α) (k : Nat) (x : α) (j : Nat), xs[k]? = some x → j < s → (xs.flatMap enc)[k * s + j]? = (enc x)[j]?
  | [], k, x, j, h, _ => by simp at h
  | y :: ys, 0, x, j, h, hj => by
    simp only [List.getElem?_cons_zero, Option.some.injEq] at h
    subst h
    rw [List.flatMap_cons, Nat.zero_mul, Nat.zero_add, List.getElem?_append_left (by rw [hs]; exact hj)]
  | y :: ys, k + 1, x, j, h, hj => by
    simp only [List.getElem?_cons_succ] at h
    rw [List.flatMap_cons, List.getElem?_append_right (by rw [hs, Nat.add_mul, Nat.one_mul]; omega), hs, show (k + 1) * s + j - s = k * s + j by rw [Nat.add_mul, Nat.one_mul]; omega]
    exact flatMap_get hs ys k x j h hj
end Go.Proofs.Ytgkpplbomciehaa
