/- Arguments of a law, opened: lists of events. Each lemma states its own conditions. -/
import Derived.Test.YtegknpffiaeohaaDoorLaw
import Derived.Test.YtegknpffiaeohaaDoorRows
namespace Go.Proofs.YtegknpffiaeohaaDoor
open Go.ChangeShapes Go.WideShapes Go.ChangeAt Go.RowKit

theorem ownK : ownKnob Tryd.prog.godebug = none := by kernel_rfl
theorem laidOutK : laidOutB Tryd.prog = true := by kernel_rfl
theorem cellsEv : Tryd.prog.cellsOf 70 = 6 := by kernel_rfl
theorem cellsInt : Tryd.prog.cellsOf 3 = 1 := by kernel_rfl
theorem bytesEv : Tryd.prog.bytesOf 70 = 48 := by kernel_rfl

theorem opens_ev {H : Type} {enc : TypeId × Value → H} {W : World} : Opens enc Tryd.prog W evR EvOk 70 := by
  intro n cs y hl h
  have hf : ∀ (i : Nat) (f : Field), i < 6 → (∃ fs, Tryd.prog.underlying 70 = some (.struct fs) ∧ fs[i]? = some f ∧ f.type = 3 ∧ f.offset = i) → ∃ k, cs[i]? = some (.int .i64 k) ∧ isI64 k := by
    rintro i f hi ⟨fs, hu, hfi, hft, hfo⟩
    obtain ⟨m, y', h1⟩ := field_cell hu h hfi
    rw [hft, hfo, cellsInt] at h1
    obtain ⟨k, hk, _, hw⟩ := DataW.trod_int Tryd.underlying3 h1
    refine ⟨k, ?_, isI64_of hw⟩
    have h2 : ((cs.drop i).take 1)[0]? = some (.int .i64 k) := by rw [hk]; rfl
    rw [List.getElem?_take] at h2
    simpa using h2
  obtain ⟨k0, e0, w0⟩ := hf 0 _ (by omega) ⟨_, Tryd.underlying70, rfl, rfl, rfl⟩
  obtain ⟨k1, e1, w1⟩ := hf 1 _ (by omega) ⟨_, Tryd.underlying70, rfl, rfl, rfl⟩
  obtain ⟨k2, e2, w2⟩ := hf 2 _ (by omega) ⟨_, Tryd.underlying70, rfl, rfl, rfl⟩
  obtain ⟨k3, e3, w3⟩ := hf 3 _ (by omega) ⟨_, Tryd.underlying70, rfl, rfl, rfl⟩
  obtain ⟨k4, e4, w4⟩ := hf 4 _ (by omega) ⟨_, Tryd.underlying70, rfl, rfl, rfl⟩
  obtain ⟨k5, e5, w5⟩ := hf 5 _ (by omega) ⟨_, Tryd.underlying70, rfl, rfl, rfl⟩
  refine ⟨⟨k0, k1, k2, k3, k4, k5⟩, ?_, w0, w1, w2, w3, w4, w5⟩
  show cs = _
  have hl6 : cs.length = 6 := hl
  match cs, hl6 with
  | [a, b, c, d, e, f], _ =>
    simp only [List.getElem?_cons_zero, List.getElem?_cons_succ, Option.some.injEq] at e0 e1 e2 e3 e4 e5
    rw [e0, e1, e2, e3, e4, e5]
    rfl

/-- an argument that is a list of events -/
theorem open_evs {H : Type} {enc : TypeId × Value → H} {W : World} {v : Value} {d : DataW H} {p : List MemPlace} (hv : ∃ a len cap, v = .slice a len cap) (h : DataW.Trod enc Tryd.prog W 0 (fun _ => true) true 37 v d p) :
    ∃ xs : List Ev, Sl evR W v xs ∧ (∀ x ∈ xs, EvOk x) ∧ ((d = .nil ∧ xs = []) ∨ ∃ elems spare, d = .slice elems spare ∧ elems.length = xs.length) := by
  obtain ⟨a, len, cap, rfl⟩ := hv
  obtain ⟨fuel, hf⟩ := h
  obtain ⟨v, xs, hc, hs, ho, hd⟩ := open_sl Tryd.underlying37 cellsEv (by decide) opens_ev hf
  simp only [Value.cells, List.cons.injEq, and_true] at hc
  subst hc
  exact ⟨xs, hs, ho, hd⟩
/-- .. is not longer than the form's reach lets it be -/
theorem evs_short {H : Type} {ts : List TypeId} {ds : List (DataW H)} (hsz : (DataW.weightsEach Tryd.prog ts ds).all (· ≤ reachBytes) = true) {j : Nat} {d : DataW H} (ht : ts[j]? = some 37) (hd : ds[j]? = some d) {xs : List Ev}
    (h : (d = .nil ∧ xs = []) ∨ ∃ elems spare, d = .slice elems spare ∧ elems.length = xs.length) : xs.length * 48 ≤ 140737488351232 := by
  rcases h with ⟨_, rfl⟩ | ⟨elems, spare, rfl, hl⟩
  · simp
  · have := sized_slice hsz ht hd Tryd.underlying37
    rw [bytesEv, hl] at this
    simp only [reachBytes] at this
    omega

end Go.Proofs.YtegknpffiaeohaaDoor
