/- Arguments of a law, opened: lists of tokens. Each lemma states its own conditions. -/
import Derived.Test.YtegknpffiaeohaaLaw
import Derived.Test.YtegknpffiaeohaaTokR
import Derived.Test.YtegknpffiaeohaaRows
namespace Go.Proofs.Ytegknpffiaeohaa
open Go.ChangeShapes Go.WideShapes Go.ChangeAt Go.RowKit

theorem ownKT : ownKnob Try.prog.godebug = none := by kernel_rfl
theorem laidOutKT : laidOutB Try.prog = true := by kernel_rfl
theorem cellsTok : Try.prog.cellsOf 34 = 3 := by kernel_rfl
theorem cellsIntT : Try.prog.cellsOf 3 = 1 := by kernel_rfl
theorem cellsStrT : Try.prog.cellsOf 9 = 1 := by kernel_rfl
theorem bytesTok : Try.prog.bytesOf 34 = 32 := by kernel_rfl

def TokOk (t : Tok) : Prop := isI64 t.kind ∧ isI64 t.at_ ∧ t.text.size ≤ maxLen
theorem opens_tok {H : Type} {enc : TypeId × Value → H} {W : World} : Opens enc Try.prog W tokR TokOk 34 := by
  intro n cs y hl h
  have hf : ∀ (i : Nat) (f : Field), i < 3 → (∃ fs, Try.prog.underlying 34 = some (.struct fs) ∧ fs[i]? = some f ∧ f.type = 3 ∧ f.offset = i) → ∃ k, cs[i]? = some (.int .i64 k) ∧ isI64 k := by
    rintro i f hi ⟨fs, hu, hfi, hft, hfo⟩
    obtain ⟨m, y', h1⟩ := field_cell hu h hfi
    rw [hft, hfo, cellsIntT] at h1
    obtain ⟨k, hk, _, hw⟩ := DataW.trod_int Try.underlying3 h1
    refine ⟨k, ?_, isI64_of hw⟩
    have h2 : ((cs.drop i).take 1)[0]? = some (.int .i64 k) := by rw [hk]; rfl
    rw [List.getElem?_take] at h2
    simpa using h2
  have hg : ∀ (i : Nat) (f : Field), i < 3 → (∃ fs, Try.prog.underlying 34 = some (.struct fs) ∧ fs[i]? = some f ∧ f.type = 9 ∧ f.offset = i) → ∃ k, cs[i]? = some (.string k) ∧ k.size ≤ maxLen := by
    rintro i f hi ⟨fs, hu, hfi, hft, hfo⟩
    obtain ⟨m, y', h1⟩ := field_cell hu h hfi
    rw [hft, hfo, cellsStrT] at h1
    obtain ⟨k, hk, _, hw⟩ := DataW.trod_string Try.underlying9 h1
    refine ⟨k, ?_, hw⟩
    have h2 : ((cs.drop i).take 1)[0]? = some (.string k) := by rw [hk]; rfl
    rw [List.getElem?_take] at h2
    simpa using h2
  obtain ⟨k0, e0, w0⟩ := hf 0 _ (by omega) ⟨_, Try.underlying34, rfl, rfl, rfl⟩
  obtain ⟨k1, e1, w1⟩ := hf 1 _ (by omega) ⟨_, Try.underlying34, rfl, rfl, rfl⟩
  obtain ⟨k2, e2, w2⟩ := hg 2 _ (by omega) ⟨_, Try.underlying34, rfl, rfl, rfl⟩
  refine ⟨⟨k0, k1, k2⟩, ?_, w0, w1, w2⟩
  show cs = _
  have hl3 : cs.length = 3 := hl
  match cs, hl3 with
  | [a, b, c], _ =>
    simp only [List.getElem?_cons_zero, List.getElem?_cons_succ, Option.some.injEq] at e0 e1 e2
    rw [e0, e1, e2]
    rfl

/-- an argument that is a list of tokens -/
theorem open_toks {H : Type} {enc : TypeId × Value → H} {W : World} {v : Value} {d : DataW H} {p : List MemPlace} (hv : ∃ a len cap, v = .slice a len cap) (h : DataW.Trod enc Try.prog W 0 (fun _ => true) true 22 v d p) :
    ∃ xs : List Tok, Sl tokR W v xs ∧ (∀ x ∈ xs, TokOk x) ∧ ((d = .nil ∧ xs = []) ∨ ∃ elems spare, d = .slice elems spare ∧ elems.length = xs.length) := by
  obtain ⟨a, len, cap, rfl⟩ := hv
  obtain ⟨fuel, hf⟩ := h
  obtain ⟨v, xs, hc, hs, ho, hd⟩ := open_sl Try.underlying22 cellsTok (by decide) opens_tok hf
  simp only [Value.cells, List.cons.injEq, and_true] at hc
  subst hc
  exact ⟨xs, hs, ho, hd⟩
/-- .. is not longer than the form's reach lets it be -/
theorem toks_short {H : Type} {ts : List TypeId} {ds : List (DataW H)} (hsz : (DataW.weightsEach Try.prog ts ds).all (· ≤ reachBytes) = true) {j : Nat} {d : DataW H} (ht : ts[j]? = some 22) (hd : ds[j]? = some d) {xs : List Tok}
    (h : (d = .nil ∧ xs = []) ∨ ∃ elems spare, d = .slice elems spare ∧ elems.length = xs.length) : xs.length * 32 ≤ 140737488351232 := by
  rcases h with ⟨_, rfl⟩ | ⟨elems, spare, rfl, hl⟩
  · simp
  · have := sized_slice hsz ht hd Try.underlying22
    rw [bytesTok, hl] at this
    simp only [reachBytes] at this
    omega

end Go.Proofs.Ytegknpffiaeohaa
