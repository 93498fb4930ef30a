/- Arguments of a law, opened: a disk, a list of truths. Arguments of a law, opened: lists of events. Arguments of a law, opened: lists of lists of events. Each lemma states its own conditions. -/
import Derived.Test.YtkojeofegoljpaaLaw
import Derived.Test.YtkojeofegoljpaaDskA
import Derived.Test.YtkojeofegoljpaaRows
namespace Go.Proofs.Ytkojeofegoljpaa
open Go.ChangeShapes Go.WideShapes Go.ChangeAt Go.RowKit

theorem ownKD : ownKnob Try.prog.godebug = none := by kernel_rfl
theorem laidOutKD : laidOutB Try.prog = true := by kernel_rfl
theorem cellsWr : Try.prog.cellsOf 71 = 2 := by kernel_rfl
theorem cellsIntD : Try.prog.cellsOf 3 = 1 := by kernel_rfl
theorem cellsStrD : Try.prog.cellsOf 9 = 1 := by kernel_rfl
theorem cellsBoolD : Try.prog.cellsOf 4 = 1 := by kernel_rfl
theorem bytesBoolD : Try.prog.bytesOf 4 = 1 := by kernel_rfl
theorem cellsStrs : Try.prog.cellsOf 22 = 1 := by kernel_rfl
theorem cellsWrs : Try.prog.cellsOf 23 = 1 := by kernel_rfl
theorem cellsDisk : Try.prog.cellsOf 25 = 2 := by kernel_rfl

def WrOk (x : Wr) : Prop := x.bytes.size ≤ maxLen
theorem opens_wr {H : Type} {enc : TypeId × Value → H} {W : World} : Opens enc Try.prog W wrR WrOk 71 := by
  intro n cs y hl h
  have hf : ∀ (i : Nat) (f : Field), i < 2 → (∃ fs, Try.prog.underlying 71 = some (.struct fs) ∧ fs[i]? = some f ∧ f.type = 3 ∧ f.offset = i) → ∃ k, cs[i]? = some (.int .i64 k) := by
    rintro i f hi ⟨fs, hu, hfi, hft, hfo⟩
    obtain ⟨m, y', h1⟩ := field_cell hu h hfi
    rw [hft, hfo, cellsIntD] at h1
    obtain ⟨k, hk, _, hw⟩ := DataW.trod_int Try.underlying3 h1
    refine ⟨k, ?_⟩
    have h2 : ((cs.drop i).take 1)[0]? = some (.int .i64 k) := by rw [hk]; rfl
    rw [List.getElem?_take] at h2
    simpa using h2
  have hg : ∀ (i : Nat) (f : Field), i < 2 → (∃ fs, Try.prog.underlying 71 = some (.struct fs) ∧ fs[i]? = some f ∧ f.type = 9 ∧ f.offset = i) → ∃ k, cs[i]? = some (.string k) ∧ k.size ≤ maxLen := by
    rintro i f hi ⟨fs, hu, hfi, hft, hfo⟩
    obtain ⟨m, y', h1⟩ := field_cell hu h hfi
    rw [hft, hfo, cellsStrD] at h1
    obtain ⟨k, hk, _, hw⟩ := DataW.trod_string Try.underlying9 h1
    refine ⟨k, ?_, hw⟩
    have h2 : ((cs.drop i).take 1)[0]? = some (.string k) := by rw [hk]; rfl
    rw [List.getElem?_take] at h2
    simpa using h2
  obtain ⟨k0, e0⟩ := hf 0 _ (by omega) ⟨_, Try.underlying71, rfl, rfl, rfl⟩
  obtain ⟨k1, e1, w1⟩ := hg 1 _ (by omega) ⟨_, Try.underlying71, rfl, rfl, rfl⟩
  refine ⟨⟨k0, k1⟩, ?_, w1⟩
  show cs = _
  have hl2 : cs.length = 2 := hl
  match cs, hl2 with
  | [a, b], _ =>
    simp only [List.getElem?_cons_zero, List.getElem?_cons_succ, Option.some.injEq] at e0 e1
    rw [e0, e1]

/-- an argument that is a list of truths -/
theorem open_bools {H : Type} {enc : TypeId × Value → H} {W : World} {v : Value} {d : DataW H} {p : List MemPlace} (hv : ∃ a len cap, v = .slice a len cap) (h : DataW.Trod enc Try.prog W 0 (fun _ => true) true 26 v d p) :
    ∃ xs : List Bool, Sl boolR W v xs ∧ ((d = .nil ∧ xs = []) ∨ ∃ elems spare, d = .slice elems spare ∧ elems.length = xs.length) := by
  obtain ⟨a, len, cap, rfl⟩ := hv
  obtain ⟨fuel, hf⟩ := h
  obtain ⟨v, xs, hc, hs, ho, hd⟩ := open_sl Try.underlying26 cellsBoolD (by decide) (opens_bool Try.underlying4) hf
  simp only [Value.cells, List.cons.injEq, and_true] at hc
  subst hc
  exact ⟨xs, hs, hd⟩
theorem bools_short {H : Type} {ts : List TypeId} {ds : List (DataW H)} (hsz : (DataW.weightsEach Try.prog ts ds).all (· ≤ reachBytes) = true) {j : Nat} {d : DataW H} (ht : ts[j]? = some 26) (hd : ds[j]? = some d) {xs : List Bool}
    (h : (d = .nil ∧ xs = []) ∨ ∃ elems spare, d = .slice elems spare ∧ elems.length = xs.length) : xs.length ≤ 140737488351232 := by
  rcases h with ⟨_, rfl⟩ | ⟨elems, spare, rfl, hl⟩
  · simp
  · have := sized_slice hsz ht hd Try.underlying26
    rw [bytesBoolD, hl] at this
    simp only [reachBytes] at this
    omega

set_option maxRecDepth 100000 in
/-- an argument that is a disk -/
theorem open_disk {H : Type} {enc : TypeId × Value → H} {W : World} {r : Reach} {base : Nat} {v : Value} {d : DataW H} {p : List MemPlace} (hv : Value.okWide Try.prog W r base 25 v)
    (h : DataW.Trod enc Try.prog W 0 (fun _ => true) true 25 v d p) : ∃ q : Dk, DkV W q v ∧ q.ok := by
  obtain ⟨cs, rfl, _⟩ := okWide_struct Try.underlying25 hv
  obtain ⟨fuel, hf⟩ := h
  have hf' : DataW.trod enc Try.prog W 0 (fun _ => true) true fuel 25 cs.toList = some (d, p) := hf
  obtain ⟨xs, n, rfl, _, hlen, hxl, hg⟩ := DataW.trod_struct Try.underlying25 hf'
  rw [cellsDisk] at hlen
  have h0 : DataW.trod enc Try.prog W 0 (fun _ => true) true n 22 ((cs.toList.drop 0).take (Try.prog.cellsOf 22)) = xs[0]? := hg 0 _ rfl
  have h1 : DataW.trod enc Try.prog W 0 (fun _ => true) true n 23 ((cs.toList.drop 1).take (Try.prog.cellsOf 23)) = xs[1]? := hg 1 _ rfl
  rw [cellsStrs, List.getElem?_eq_getElem (by rw [hxl]; decide)] at h0
  rw [cellsWrs, List.getElem?_eq_getElem (by rw [hxl]; decide)] at h1
  obtain ⟨v0, x0, e0, s0, o0, -⟩ := open_sl Try.underlying22 cellsStrD (by decide) (opens_str Try.underlying9) h0
  obtain ⟨v1, x1, e1, s1, o1, -⟩ := open_sl Try.underlying23 cellsWr (by decide) opens_wr h1
  obtain ⟨cs⟩ := cs
  match cs, hlen with
  | [a, b], _ =>
    have ea : a = v0 := by simpa using e0
    have eb : b = v1 := by simpa using e1
    subst ea
    subst eb
    have s0' := s0
    have s1' := s1
    obtain ⟨A, c, rfl, -⟩ := s0'
    obtain ⟨B, g, rfl, -⟩ := s1'
    exact ⟨⟨x0, x1⟩, ⟨A, c, B, g, rfl, s0, s1⟩, o0, o1⟩

end Go.Proofs.Ytkojeofegoljpaa

namespace Go.Proofs.Ytkojeofegoljpaa
open Go.ChangeShapes Go.WideShapes Go.ChangeAt Go.RowKit

theorem ownK : ownKnob Try.prog.godebug = none := by kernel_rfl
theorem laidOutK : laidOutB Try.prog = true := by kernel_rfl
theorem cellsEv : Try.prog.cellsOf 81 = 6 := by kernel_rfl
theorem cellsInt : Try.prog.cellsOf 3 = 1 := by kernel_rfl
theorem bytesEv : Try.prog.bytesOf 81 = 48 := by kernel_rfl

theorem opens_ev {H : Type} {enc : TypeId × Value → H} {W : World} : Opens enc Try.prog W evR EvOk 81 := by
  intro n cs y hl h
  have hf : ∀ (i : Nat) (f : Field), i < 6 → (∃ fs, Try.prog.underlying 81 = some (.struct fs) ∧ fs[i]? = some f ∧ f.type = 3 ∧ f.offset = i) → ∃ k, cs[i]? = some (.int .i64 k) ∧ isI64 k := by
    rintro i f hi ⟨fs, hu, hfi, hft, hfo⟩
    obtain ⟨m, y', h1⟩ := field_cell hu h hfi
    rw [hft, hfo, cellsInt] at h1
    obtain ⟨k, hk, _, hw⟩ := DataW.trod_int Try.underlying3 h1
    refine ⟨k, ?_, isI64_of hw⟩
    have h2 : ((cs.drop i).take 1)[0]? = some (.int .i64 k) := by rw [hk]; rfl
    rw [List.getElem?_take] at h2
    simpa using h2
  obtain ⟨k0, e0, w0⟩ := hf 0 _ (by omega) ⟨_, Try.underlying81, rfl, rfl, rfl⟩
  obtain ⟨k1, e1, w1⟩ := hf 1 _ (by omega) ⟨_, Try.underlying81, rfl, rfl, rfl⟩
  obtain ⟨k2, e2, w2⟩ := hf 2 _ (by omega) ⟨_, Try.underlying81, rfl, rfl, rfl⟩
  obtain ⟨k3, e3, w3⟩ := hf 3 _ (by omega) ⟨_, Try.underlying81, rfl, rfl, rfl⟩
  obtain ⟨k4, e4, w4⟩ := hf 4 _ (by omega) ⟨_, Try.underlying81, rfl, rfl, rfl⟩
  obtain ⟨k5, e5, w5⟩ := hf 5 _ (by omega) ⟨_, Try.underlying81, rfl, rfl, rfl⟩
  refine ⟨⟨k0, k1, k2, k3, k4, k5⟩, ?_, w0, w1, w2, w3, w4, w5⟩
  show cs = _
  have hl6 : cs.length = 6 := hl
  match cs, hl6 with
  | [a, b, c, d, e, f], _ =>
    simp only [List.getElem?_cons_zero, List.getElem?_cons_succ, Option.some.injEq] at e0 e1 e2 e3 e4 e5
    rw [e0, e1, e2, e3, e4, e5]
    rfl

/-- an argument that is a list of events -/
theorem open_evs {H : Type} {enc : TypeId × Value → H} {W : World} {v : Value} {d : DataW H} {p : List MemPlace} (hv : ∃ a len cap, v = .slice a len cap) (h : DataW.Trod enc Try.prog W 0 (fun _ => true) true 45 v d p) :
    ∃ xs : List Ev, Sl evR W v xs ∧ (∀ x ∈ xs, EvOk x) ∧ ((d = .nil ∧ xs = []) ∨ ∃ elems spare, d = .slice elems spare ∧ elems.length = xs.length) := by
  obtain ⟨a, len, cap, rfl⟩ := hv
  obtain ⟨fuel, hf⟩ := h
  obtain ⟨v, xs, hc, hs, ho, hd⟩ := open_sl Try.underlying45 cellsEv (by decide) opens_ev hf
  simp only [Value.cells, List.cons.injEq, and_true] at hc
  subst hc
  exact ⟨xs, hs, ho, hd⟩
/-- .. is not longer than the form's reach lets it be -/
theorem evs_short {H : Type} {ts : List TypeId} {ds : List (DataW H)} (hsz : (DataW.weightsEach Try.prog ts ds).all (· ≤ reachBytes) = true) {j : Nat} {d : DataW H} (ht : ts[j]? = some 45) (hd : ds[j]? = some d) {xs : List Ev}
    (h : (d = .nil ∧ xs = []) ∨ ∃ elems spare, d = .slice elems spare ∧ elems.length = xs.length) : xs.length * 48 ≤ 140737488351232 := by
  rcases h with ⟨_, rfl⟩ | ⟨elems, spare, rfl, hl⟩
  · simp
  · have := sized_slice hsz ht hd Try.underlying45
    rw [bytesEv, hl] at this
    simp only [reachBytes] at this
    omega

end Go.Proofs.Ytkojeofegoljpaa

namespace Go.Proofs.Ytkojeofegoljpaa
open Go.ChangeShapes Go.WideShapes Go.ChangeAt Go.RowKit

theorem cellsEvs : Try.prog.cellsOf 45 = 1 := by kernel_rfl
theorem opens_evs {H : Type} {enc : TypeId × Value → H} {W : World} : Opens enc Try.prog W (Rep.slice evR) (fun xs => ∀ e ∈ xs, EvOk e) 45 := by
  intro n cs y _ h
  obtain ⟨v, xs, rfl, hs, ho, _⟩ := open_sl Try.underlying45 cellsEv (by decide) opens_ev h
  exact ⟨xs, ⟨v, rfl, hs⟩, ho⟩
/-- an argument that is a list of lists of events -/
theorem open_evss {H : Type} {enc : TypeId × Value → H} {W : World} {v : Value} {d : DataW H} {p : List MemPlace} (hv : ∃ a len cap, v = .slice a len cap) (h : DataW.Trod enc Try.prog W 0 (fun _ => true) true 49 v d p) :
    ∃ xs : List (List Ev), Sl (Rep.slice evR) W v xs ∧ ∀ l ∈ xs, ∀ e ∈ l, EvOk e := by
  obtain ⟨a, len, cap, rfl⟩ := hv
  obtain ⟨fuel, hf⟩ := h
  obtain ⟨v, xs, hc, hs, ho, hd⟩ := open_sl Try.underlying49 cellsEvs (by decide) opens_evs hf
  simp only [Value.cells, List.cons.injEq, and_true] at hc
  subst hc
  exact ⟨xs, hs, ho⟩

/-- an argument that is a list of numbers -/
theorem open_ints {H : Type} {enc : TypeId × Value → H} {W : World} {v : Value} {d : DataW H} {p : List MemPlace} (hv : ∃ a len cap, v = .slice a len cap) (h : DataW.Trod enc Try.prog W 0 (fun _ => true) true 54 v d p) :
    ∃ xs : List Int, Sl intR W v xs ∧ ∀ x ∈ xs, isI64 x := by
  obtain ⟨a, len, cap, rfl⟩ := hv
  obtain ⟨fuel, hf⟩ := h
  obtain ⟨v, xs, hc, hs, ho, hd⟩ := open_sl Try.underlying54 cellsInt (by decide) (opens_int Try.underlying3) hf
  simp only [Value.cells, List.cons.injEq, and_true] at hc
  subst hc
  exact ⟨xs, hs, ho⟩

end Go.Proofs.Ytkojeofegoljpaa
