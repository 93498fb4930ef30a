/- Arguments of a law, opened: lists of lists of events. Each lemma states its own conditions. -/
import Derived.Test.YtkojeofegoljpaaOpEv
namespace Go.Proofs.Ytkojeofegoljpaa
open Go.ChangeShapes Go.WideShapes Go.ChangeAt Go.RowKit

theorem cellsEvs : Try.prog.cellsOf 45 = 1 := by kernel_rfl
theorem opens_evs {H : Type} {enc : TypeId × Value → H} {W : World} : Opens enc Try.prog W (Rep.slice evR) (fun xs => ∀ e ∈ xs, EvOk e) 45 := by
  intro n cs y _ h
  obtain ⟨v, xs, rfl, hs, ho, _⟩ := open_sl Try.underlying45 cellsEv (by decide) opens_ev h
  exact ⟨xs, ⟨v, rfl, hs⟩, ho⟩
/-- an argument that is a list of lists of events -/
theorem open_evss {H : Type} {enc : TypeId × Value → H} {W : World} {v : Value} {d : DataW H} {p : List MemPlace} (hv : ∃ a len cap, v = .slice a len cap) (h : DataW.Trod enc Try.prog W 0 (fun _ => true) true 49 v d p) :
    ∃ xs : List (List Ev), Sl (Rep.slice evR) W v xs ∧ ∀ l ∈ xs, ∀ e ∈ l, EvOk e := by
  obtain ⟨a, len, cap, rfl⟩ := hv
  obtain ⟨fuel, hf⟩ := h
  obtain ⟨v, xs, hc, hs, ho, hd⟩ := open_sl Try.underlying49 cellsEvs (by decide) opens_evs hf
  simp only [Value.cells, List.cons.injEq, and_true] at hc
  subst hc
  exact ⟨xs, hs, ho⟩

/-- an argument that is a list of numbers -/
theorem open_ints {H : Type} {enc : TypeId × Value → H} {W : World} {v : Value} {d : DataW H} {p : List MemPlace} (hv : ∃ a len cap, v = .slice a len cap) (h : DataW.Trod enc Try.prog W 0 (fun _ => true) true 54 v d p) :
    ∃ xs : List Int, Sl intR W v xs ∧ ∀ x ∈ xs, isI64 x := by
  obtain ⟨a, len, cap, rfl⟩ := hv
  obtain ⟨fuel, hf⟩ := h
  obtain ⟨v, xs, hc, hs, ho, hd⟩ := open_sl Try.underlying54 cellsInt (by decide) (opens_int Try.underlying3) hf
  simp only [Value.cells, List.cons.injEq, and_true] at hc
  subst hc
  exact ⟨xs, hs, ho⟩

end Go.Proofs.Ytkojeofegoljpaa
