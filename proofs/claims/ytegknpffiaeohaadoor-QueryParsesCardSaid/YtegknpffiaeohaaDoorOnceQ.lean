/- The small query and trace: walked. No conditions. -/
import Derived.Test.YtegknpffiaeohaaDoorQryL
import Derived.Laws.StructEq
namespace Go.Proofs.YtegknpffiaeohaaDoor
open Go.RowKit

def smallT : List Ev := [⟨1, 0, 0, 0, 0, 0⟩, ⟨3, 0, 0, 0, 0, 7⟩, ⟨2, 0, 0, 0, 0, 7⟩, ⟨1, 0, 1, 0, 0, 0⟩, ⟨4, 0, 1, 0, 0, 7⟩, ⟨7, 0, -1, 0, 0, 0⟩]
theorem flatMap_get {α : Type} {enc : α → List Value} {s : Nat} (hs : ∀ x, (enc x).length = s) : ∀ (xs : List α) (k : Nat) (x : α) (j : Nat), xs[k]? = some x → j < s → (xs.flatMap enc)[k * s + j]? = (enc x)[j]?
  | [], k, x, j, h, _ => by simp at h
  | y :: ys, 0, x, j, h, hj => by
    simp only [List.getElem?_cons_zero, Option.some.injEq] at h
    subst h
    rw [List.flatMap_cons, Nat.zero_mul, Nat.zero_add, List.getElem?_append_left (by rw [hs]; exact hj)]
  | y :: ys, k + 1, x, j, h, hj => by
    simp only [List.getElem?_cons_succ] at h
    rw [List.flatMap_cons, List.getElem?_append_right (by rw [hs, Nat.add_mul, Nat.one_mul]; omega), hs, show (k + 1) * s + j - s = k * s + j by rw [Nat.add_mul, Nat.one_mul]; omega]
    exact flatMap_get hs ys k x j h hj
/-- a list of events that lies in a block from its head on -/
theorem Sl.evs {w : World} {g : Nat} {t : TypeId} {cs : Array Value} {c : Nat} (h : Blk w g t cs) {xs : List Ev} (hx : cs.toList = xs.flatMap Ev.cells) (hc : xs.length ≤ c) (hm : c ≤ maxLen) : Sl evR w (.slice (some ⟨g, 0, none⟩) xs.length c) xs := by
  refine ⟨_, c, rfl, hc, ⟨hm, fun h => by cases h⟩, fun _ => ⟨g, 0, rfl, fun k x hk => ⟨x.cells, rfl, fun j u hu => h.cell ?_⟩⟩⟩
  have hj : j < 6 := (List.getElem?_eq_some_iff.1 hu).1
  have := flatMap_get (enc := Ev.cells) (s := 6) (fun _ => rfl) xs k x j hk hj
  rw [← hx, hu] at this
  simpa [evR] using this

theorem smallTrace_any (w : World) : Calls Tryd.prog 28 #[] w fun r w' => ∃ u, r = .returned u ∧ Sl evR w' u smallT ∧ Bel w w' := by
  go_enter Tryd.func28, Tryd.ntmps28
  go_wp2
  go_ret
  refine ⟨_, rfl, ?_, (Bel.rfl_ w).al _⟩
  exact Sl.evs (xs := smallT) (Blk.new _ _ _) rfl (by decide) (by decide)

def onceQ : Ask := .mk 11 0 [.mk 4 0 []]
theorem once_any (w : World) : Calls Tryd.prog 27 #[] w fun r w' => ∃ val, r = .returned val ∧ AskV w' onceQ val ∧ Bel w w' := by
  go_enter Tryd.func27, Tryd.ntmps27
  go_wp2
  have hr : Tryd.f27.results = #[.cell 0 24] := rfl
  refine bodyPost_ret (v := .agg #[.int .i64 11, .int .i64 0, .slice (some ⟨w.heap.size + 1, 0, none⟩) 1 1]) (by simp [results, go_sem]) rfl ⟨_, rfl, ⟨_, rfl, ?_⟩, ((Bel.rfl_ w).al _).al _⟩
  have hb := Blk.new (w.alloc (.cells #[.int .i64 11, .int .i64 0, .slice (some ⟨w.heap.size + 1, 0, none⟩) 1 1] 24)) 24 #[.int .i64 4, .int .i64 0, .slice none 0 0]
  rw [World.size_alloc] at hb
  refine ⟨_, 1, rfl, Nat.le_refl _, ⟨by decide, fun h => by cases h⟩, fun _ => ⟨_, 0, rfl, fun k x hk => ?_⟩⟩
  match k, hk with
  | 0, hk =>
    obtain rfl := Option.some.inj hk
    exact ⟨[.int .i64 4, .int .i64 0, .slice none 0 0], AskR.nil 4 0 none 0 (Nat.zero_le _) (fun _ => rfl), fun j u hu => by
      have := hb.cell (i := j) (v := u) (by simpa using hu)
      simpa [askR] using this⟩
  | k + 1, hk => simp [onceQ, Ask.args] at hk
theorem onceErr : holdErr onceQ smallT.length = 0 := by decide +kernel
theorem onceL : holdL onceQ smallT = [false, false, false, false, true, true] := by decide +kernel

end Go.Proofs.YtegknpffiaeohaaDoor
