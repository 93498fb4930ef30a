/- Arguments of a law, opened: lists of events. Arguments of a law, opened: a query. Each lemma states its own conditions. -/
import Derived.Test.YtegknpffiaeohaaDoorLaw
import Derived.Test.YtegknpffiaeohaaDoorRows
import Derived.Test.YtegknpffiaeohaaDoorQryC
namespace Go.Proofs.YtegknpffiaeohaaDoor
open Go.ChangeShapes Go.WideShapes Go.ChangeAt Go.RowKit

theorem ownK : ownKnob Tryd.prog.godebug = none := by kernel_rfl
theorem laidOutK : laidOutB Tryd.prog = true := by kernel_rfl
theorem cellsEv : Tryd.prog.cellsOf 70 = 6 := by kernel_rfl
theorem cellsInt : Tryd.prog.cellsOf 3 = 1 := by kernel_rfl
theorem bytesEv : Tryd.prog.bytesOf 70 = 48 := by kernel_rfl

theorem opens_ev {H : Type} {enc : TypeId × Value → H} {W : World} : Opens enc Tryd.prog W evR EvOk 70 := by
  intro n cs y hl h
  have hf : ∀ (i : Nat) (f : Field), i < 6 → (∃ fs, Tryd.prog.underlying 70 = some (.struct fs) ∧ fs[i]? = some f ∧ f.type = 3 ∧ f.offset = i) → ∃ k, cs[i]? = some (.int .i64 k) ∧ isI64 k := by
    rintro i f hi ⟨fs, hu, hfi, hft, hfo⟩
    obtain ⟨m, y', h1⟩ := field_cell hu h hfi
    rw [hft, hfo, cellsInt] at h1
    obtain ⟨k, hk, _, hw⟩ := DataW.trod_int Tryd.underlying3 h1
    refine ⟨k, ?_, isI64_of hw⟩
    have h2 : ((cs.drop i).take 1)[0]? = some (.int .i64 k) := by rw [hk]; rfl
    rw [List.getElem?_take] at h2
    simpa using h2
  obtain ⟨k0, e0, w0⟩ := hf 0 _ (by omega) ⟨_, Tryd.underlying70, rfl, rfl, rfl⟩
  obtain ⟨k1, e1, w1⟩ := hf 1 _ (by omega) ⟨_, Tryd.underlying70, rfl, rfl, rfl⟩
  obtain ⟨k2, e2, w2⟩ := hf 2 _ (by omega) ⟨_, Tryd.underlying70, rfl, rfl, rfl⟩
  obtain ⟨k3, e3, w3⟩ := hf 3 _ (by omega) ⟨_, Tryd.underlying70, rfl, rfl, rfl⟩
  obtain ⟨k4, e4, w4⟩ := hf 4 _ (by omega) ⟨_, Tryd.underlying70, rfl, rfl, rfl⟩
  obtain ⟨k5, e5, w5⟩ := hf 5 _ (by omega) ⟨_, Tryd.underlying70, rfl, rfl, rfl⟩
  refine ⟨⟨k0, k1, k2, k3, k4, k5⟩, ?_, w0, w1, w2, w3, w4, w5⟩
  show cs = _
  have hl6 : cs.length = 6 := hl
  match cs, hl6 with
  | [a, b, c, d, e, f], _ =>
    simp only [List.getElem?_cons_zero, List.getElem?_cons_succ, Option.some.injEq] at e0 e1 e2 e3 e4 e5
    rw [e0, e1, e2, e3, e4, e5]
    rfl

/-- an argument that is a list of events -/
theorem open_evs {H : Type} {enc : TypeId × Value → H} {W : World} {v : Value} {d : DataW H} {p : List MemPlace} (hv : ∃ a len cap, v = .slice a len cap) (h : DataW.Trod enc Tryd.prog W 0 (fun _ => true) true 37 v d p) :
    ∃ xs : List Ev, Sl evR W v xs ∧ (∀ x ∈ xs, EvOk x) ∧ ((d = .nil ∧ xs = []) ∨ ∃ elems spare, d = .slice elems spare ∧ elems.length = xs.length) := by
  obtain ⟨a, len, cap, rfl⟩ := hv
  obtain ⟨fuel, hf⟩ := h
  obtain ⟨v, xs, hc, hs, ho, hd⟩ := open_sl Tryd.underlying37 cellsEv (by decide) opens_ev hf
  simp only [Value.cells, List.cons.injEq, and_true] at hc
  subst hc
  exact ⟨xs, hs, ho, hd⟩
/-- .. is not longer than the form's reach lets it be -/
theorem evs_short {H : Type} {ts : List TypeId} {ds : List (DataW H)} (hsz : (DataW.weightsEach Tryd.prog ts ds).all (· ≤ reachBytes) = true) {j : Nat} {d : DataW H} (ht : ts[j]? = some 37) (hd : ds[j]? = some d) {xs : List Ev}
    (h : (d = .nil ∧ xs = []) ∨ ∃ elems spare, d = .slice elems spare ∧ elems.length = xs.length) : xs.length * 48 ≤ 140737488351232 := by
  rcases h with ⟨_, rfl⟩ | ⟨elems, spare, rfl, hl⟩
  · simp
  · have := sized_slice hsz ht hd Tryd.underlying37
    rw [bytesEv, hl] at this
    simp only [reachBytes] at this
    omega

end Go.Proofs.YtegknpffiaeohaaDoor

namespace Go.Proofs.YtegknpffiaeohaaDoor
open Go.ChangeShapes Go.WideShapes Go.ChangeAt Go.RowKit

theorem cellsAsk : Tryd.prog.cellsOf 24 = 3 := by kernel_rfl
theorem cellsAsks : Tryd.prog.cellsOf 22 = 1 := by kernel_rfl

set_option maxRecDepth 100000 in
theorem open_ask_cells {H : Type} {enc : TypeId × Value → H} {W : World} : ∀ (fuel : Nat) (cs : List Value) (y : DataW H × List MemPlace),
    DataW.trod enc Tryd.prog W 0 (fun _ => true) true fuel 24 cs = some y → ∃ q, AskR W q cs := by
  intro fuel
  induction fuel using Nat.strongRecOn with
  | _ fuel ih =>
    intro cs y h
    obtain ⟨xs, n, rfl, _, hlen, hxl, hg⟩ := DataW.trod_struct Tryd.underlying24 h
    rw [cellsAsk] at hlen
    have hf : ∀ (i : Nat) (f : Field), i < 2 → (∃ fs, Tryd.prog.underlying 24 = some (.struct fs) ∧ fs[i]? = some f ∧ f.type = 3 ∧ f.offset = i) → ∃ k, cs[i]? = some (.int .i64 k) := by
      rintro i f hi ⟨fs, hu, hfi, hft, hfo⟩
      obtain ⟨m, y', h1⟩ := field_cell hu h hfi
      rw [hft, hfo, cellsInt] at h1
      obtain ⟨k, hk, _, _⟩ := DataW.trod_int Tryd.underlying3 h1
      refine ⟨k, ?_⟩
      have h2 : ((cs.drop i).take 1)[0]? = some (.int .i64 k) := by rw [hk]; rfl
      rw [List.getElem?_take] at h2
      simpa using h2
    obtain ⟨k0, e0⟩ := hf 0 _ (by omega) ⟨_, Tryd.underlying24, rfl, rfl, rfl⟩
    obtain ⟨k1, e1⟩ := hf 1 _ (by omega) ⟨_, Tryd.underlying24, rfl, rfl, rfl⟩
    have h3 : DataW.trod enc Tryd.prog W 0 (fun _ => true) true n 22 ((cs.drop 2).take (Tryd.prog.cellsOf 22)) = xs[2]? := hg 2 _ rfl
    rw [cellsAsks, List.getElem?_eq_getElem (by rw [hxl]; decide)] at h3
    match cs, hlen with
    | [c0, c1, c2], _ =>
      simp only [List.getElem?_cons_zero, List.getElem?_cons_succ, Option.some.injEq] at e0 e1
      subst e0
      subst e1
      have h4 : (([Value.int .i64 k0, .int .i64 k1, c2] : List Value).drop 2).take 1 = [c2] := rfl
      rw [h4] at h3
      rcases DataW.trod_slice Tryd.underlying22 h3 with ⟨hc, _⟩ | ⟨a, len, cap, elems, rest, m, hm, hc, _, _, hlc, hcm, hel, hei, _, _⟩
      · obtain rfl : c2 = .slice none 0 0 := by simpa using hc
        exact ⟨.mk k0 k1 [], .nil k0 k1 none 0 (Nat.zero_le _) (fun _ => rfl)⟩
      · obtain rfl : c2 = .slice (some a) len cap := by simpa using hc
        have hx : ∀ i, i < len → ∃ q cs', AskR W q cs' ∧ ∀ j, j < 3 → W.cell? ((a.add (i * 3)).add j) = cs'[j]? := fun i hi => by
          have h5 := hei i hi
          rw [cellsAsk, List.getElem?_eq_getElem (by omega)] at h5
          obtain ⟨cs', hcs, htr⟩ := Option.bind_eq_some_iff.1 h5
          obtain ⟨q, hq⟩ := ih m (by omega) cs' _ htr
          obtain ⟨_, _, hcell⟩ := World.cells?_some hcs
          exact ⟨q, cs', hq, hcell⟩
        refine ⟨.mk k0 k1 ((List.range len).pmap (fun i hi' => Classical.choose (hx i hi')) (fun i hi' => List.mem_range.1 hi')), AskR.shut ⟨some a, cap, by simp, by simpa using hlc, ⟨hcm, fun h => by cases h⟩, fun hp => ?_⟩⟩
        have hs : a.spot = none := by
          obtain ⟨q, cs', hq, hcell⟩ := hx 0 (by simpa using hp)
          refine cells_lit (w := W) (n := 3) (cs := cs') (fun i hi' => ?_) (askR.len (w := W) (x := q) hq) (by decide)
          have := hcell i hi'
          simpa [Addr.add] using this
        obtain ⟨b, o, sp⟩ := a
        simp only at hs
        subst hs
        refine ⟨b, o, rfl, fun k x hk => ?_⟩
        rw [List.getElem?_pmap] at hk
        have hk2 : k < len := by
          rcases Nat.lt_or_ge k len with h | h
          · exact h
          · simp [h] at hk
        simp only [List.getElem?_range hk2, Option.pmap_some, Option.some.injEq] at hk
        obtain ⟨cs', hq, hcell⟩ := Classical.choose_spec (hx k hk2)
        rw [hk] at hq
        refine ⟨cs', hq, fun j u hu => ?_⟩
        have hj : j < 3 := by
          have := (List.getElem?_eq_some_iff.1 hu).1
          have h6 : cs'.length = 3 := askR.len (w := W) (x := x) hq
          omega
        have h1 := hcell j hj
        rw [hu] at h1
        have e1 : ((⟨b, o, none⟩ : Addr).add (k * 3)).add j = ⟨b, o + k * 3 + j, none⟩ := by
          unfold Addr.add
          by_cases hk0 : k * 3 = 0 <;> by_cases hj0 : j = 0 <;> simp [hk0, hj0]
        rw [e1] at h1
        exact h1

set_option maxRecDepth 100000 in
/-- an argument that is a query -/
theorem open_ask {H : Type} {enc : TypeId × Value → H} {W : World} {r : Reach} {base : Nat} {v : Value} {d : DataW H} {p : List MemPlace} (hv : Value.okWide Tryd.prog W r base 24 v)
    (h : DataW.Trod enc Tryd.prog W 0 (fun _ => true) true 24 v d p) : ∃ q, AskV W q v := by
  obtain ⟨cs, rfl, _⟩ := okWide_struct Tryd.underlying24 hv
  obtain ⟨fuel, hf⟩ := h
  obtain ⟨q, hq⟩ := open_ask_cells fuel _ _ hf
  obtain ⟨k, n, args⟩ := q
  obtain ⟨v, hc, hs⟩ := AskR.opened hq
  refine ⟨.mk k n args, v, ?_, hs⟩
  have : cs.toList = [.int .i64 k, .int .i64 n, v] := hc
  have h2 : cs = #[.int .i64 k, .int .i64 n, v] := by rw [← Array.toArray_toList (xs := cs), this]
  rw [h2]
  rfl

end Go.Proofs.YtegknpffiaeohaaDoor
