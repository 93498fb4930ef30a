/- IndexTells answers true for every input, and the input reads as it did. No conditions. -/
import Derived.Test.YtdfbhlehfbckjaaIdxG
import Derived.Test.YtdfbhlehfbckjaaLaw
namespace Go.Proofs.Ytdfbhlehfbckjaa
open Go.ChangeShapes Go.WideShapes Go.ChangeAt Go.RowKit

theorem ownK : ownKnob Try.prog.godebug = none := by kernel_rfl
theorem laidOutK : laidOutB Try.prog = true := by kernel_rfl
theorem cellsEv : Try.prog.cellsOf 58 = 6 := by kernel_rfl
theorem cellsInt : Try.prog.cellsOf 3 = 1 := by kernel_rfl
theorem bytesEv : Try.prog.bytesOf 58 = 48 := by kernel_rfl

theorem opens_ev {H : Type} {enc : TypeId × Value → H} {W : World} : Opens enc Try.prog W evR EvOk 58 := by
  intro n cs y hl h
  have hf : ∀ (i : Nat) (f : Field), i < 6 → (∃ fs, Try.prog.underlying 58 = some (.struct fs) ∧ fs[i]? = some f ∧ f.type = 3 ∧ f.offset = i) → ∃ k, cs[i]? = some (.int .i64 k) ∧ isI64 k := by
    rintro i f hi ⟨fs, hu, hfi, hft, hfo⟩
    obtain ⟨m, y', h1⟩ := field_cell hu h hfi
    rw [hft, hfo, cellsInt] at h1
    obtain ⟨k, hk, _, hw⟩ := DataW.trod_int Try.underlying3 h1
    refine ⟨k, ?_, isI64_of hw⟩
    have h2 : ((cs.drop i).take 1)[0]? = some (.int .i64 k) := by rw [hk]; rfl
    rw [List.getElem?_take] at h2
    simpa using h2
  obtain ⟨k0, e0, w0⟩ := hf 0 _ (by omega) ⟨_, Try.underlying58, rfl, rfl, rfl⟩
  obtain ⟨k1, e1, w1⟩ := hf 1 _ (by omega) ⟨_, Try.underlying58, rfl, rfl, rfl⟩
  obtain ⟨k2, e2, w2⟩ := hf 2 _ (by omega) ⟨_, Try.underlying58, rfl, rfl, rfl⟩
  obtain ⟨k3, e3, w3⟩ := hf 3 _ (by omega) ⟨_, Try.underlying58, rfl, rfl, rfl⟩
  obtain ⟨k4, e4, w4⟩ := hf 4 _ (by omega) ⟨_, Try.underlying58, rfl, rfl, rfl⟩
  obtain ⟨k5, e5, w5⟩ := hf 5 _ (by omega) ⟨_, Try.underlying58, rfl, rfl, rfl⟩
  refine ⟨⟨k0, k1, k2, k3, k4, k5⟩, ?_, w0, w1, w2, w3, w4, w5⟩
  show cs = _
  have hl6 : cs.length = 6 := hl
  match cs, hl6 with
  | [a, b, c, d, e, f], _ =>
    simp only [List.getElem?_cons_zero, List.getElem?_cons_succ, Option.some.injEq] at e0 e1 e2 e3 e4 e5
    rw [e0, e1, e2, e3, e4, e5]
    rfl

/-- an argument that is a list of events -/
theorem open_evs {H : Type} {enc : TypeId × Value → H} {W : World} {v : Value} {d : DataW H} {p : List MemPlace} (hv : ∃ a len cap, v = .slice a len cap) (h : DataW.Trod enc Try.prog W 0 (fun _ => true) true 22 v d p) :
    ∃ xs : List Ev, Sl evR W v xs ∧ (∀ x ∈ xs, EvOk x) ∧ ((d = .nil ∧ xs = []) ∨ ∃ elems spare, d = .slice elems spare ∧ elems.length = xs.length) := by
  obtain ⟨a, len, cap, rfl⟩ := hv
  obtain ⟨fuel, hf⟩ := h
  obtain ⟨v, xs, hc, hs, ho, hd⟩ := open_sl Try.underlying22 cellsEv (by decide) opens_ev hf
  simp only [Value.cells, List.cons.injEq, and_true] at hc
  subst hc
  exact ⟨xs, hs, ho, hd⟩
/-- .. is not longer than the form's reach lets it be -/
theorem evs_short {H : Type} {ts : List TypeId} {ds : List (DataW H)} (hsz : (DataW.weightsEach Try.prog ts ds).all (· ≤ reachBytes) = true) {j : Nat} {d : DataW H} (ht : ts[j]? = some 22) (hd : ds[j]? = some d) {xs : List Ev}
    (h : (d = .nil ∧ xs = []) ∨ ∃ elems spare, d = .slice elems spare ∧ elems.length = xs.length) : xs.length * 48 ≤ 140737488351232 := by
  rcases h with ⟨_, rfl⟩ | ⟨elems, spare, rfl, hl⟩
  · simp
  · have := sized_slice hsz ht hd Try.underlying22
    rw [bytesEv, hl] at this
    simp only [reachBytes] at this
    omega

theorem indexTells_post (H : Type) (enc : TypeId × Value → H) (W : World) (base : Nat) (args : Array Value) (ds gs : List (DataW H)) (before : List MemPlace)
    (hval : ∀ (j : Nat) t v, Try.f3.params[j]? = some t → args[j]? = some v → Value.okWide Try.prog W .any base t v)
    (hW : DataW.Whole enc Try.prog Try.f3.params.toList Rows.indexTellsSpec.vars false W args.toList ds gs before)
    (hsz : (DataW.weightsEach Try.prog (Try.f3.params.toList ++ Rows.indexTellsSpec.plain.varTypes Try.prog) (ds ++ gs)).all (· ≤ reachBytes) = true) :
    Calls Try.prog 3 args W fun e W' => ∃ v, e = .returned v ∧ Rows.indexTellsSpec.post enc Try.prog Try.f3 false true false false W args v W' := by
  have hW' := hW
  obtain ⟨p, q, hA, hV, rfl, _, _⟩ := hW
  rw [Try.params3] at hA hval hsz
  obtain ⟨v0, vs0, d0, ds0, p0, q0, hargs, rfl, rfl, h0, r0⟩ := trodAll_cons hA
  obtain ⟨v1, vs1, d1, ds1, p1, q1, rfl, rfl, rfl, h1, r1⟩ := trodAll_cons r0
  obtain ⟨v2, vs2, d2, ds2, p2, q2, rfl, rfl, rfl, h2, r2⟩ := trodAll_cons r1
  obtain ⟨v3, vs3, d3, ds3, p3, q3, rfl, rfl, rfl, h3, r3⟩ := trodAll_cons r2
  obtain ⟨v4, vs4, d4, ds4, p4, q4, rfl, rfl, rfl, h4, r4⟩ := trodAll_cons r3
  obtain ⟨rfl, rfl, rfl⟩ := trodAll_nil r4
  obtain rfl : args = #[v0, v1, v2, v3, v4] := by cases args; simp_all
  obtain ⟨rfl, rfl⟩ := trodVars_none hV
  obtain ⟨xs, hs, _, hd⟩ := open_evs (okWide_slice Try.underlying22 (hval 0 22 v0 rfl rfl)) h0
  obtain ⟨k1, rfl, rfl, rfl, w1⟩ := open_int Try.underlying3 (hval 1 3 v1 rfl rfl) h1
  obtain ⟨k2, rfl, rfl, rfl, w2⟩ := open_int Try.underlying3 (hval 2 3 v2 rfl rfl) h2
  obtain ⟨k3, rfl, rfl, rfl, w3⟩ := open_int Try.underlying3 (hval 3 3 v3 rfl rfl) h3
  obtain ⟨k4, rfl, rfl, rfl, w4⟩ := open_int Try.underlying3 (hval 4 3 v4 rfl rfl) h4
  have hlen := evs_short hsz (j := 0) rfl rfl hd
  refine (tells_any v0 xs k1 k2 k3 k4 W hs (by unfold ok64; omega)).mono fun e W' ⟨he, hb⟩ => ?_
  subst he
  refine ⟨_, rfl, law_post rfl rfl Try.underlying4 laidOutK ?_ hW' rfl hb⟩
  rw [Try.params3]
  intro t ht
  simp only [List.mem_cons, List.not_mem_nil, or_false] at ht
  rcases ht with rfl | rfl | rfl | rfl | rfl <;> exact ⟨by kernel_rfl, of_decide_eq_true (by kernel_rfl)⟩

set_option maxRecDepth 100000 in
theorem indexTells_lifted (os : Os) (started : os.Started) (H : Type) (enc : TypeId × Value → H) :
    ReturnsInHanded {} Try.checked os 3 .any (Rows.indexTellsSpec.pre6 enc Try.prog Try.f3 Rows.indexTellsRow.domain false) (Rows.indexTellsSpec.post enc Try.prog Try.f3 false true false false) := by
  refine returnsInHanded_of_change_sized (C := Try.checked) ownK started (by kernel_rfl) Try.func3
    (ChangeSpec.witness6 (enc := enc) (C := Try.checked) false ⟨#[], #[.slice none 0 0, .int .i64 0, .int .i64 0, .int .i64 0, .int .i64 0], []⟩ 8 (by kernel_rfl) (by kernel_rfl) (by kernel_rfl) (by kernel_rfl)) ?_
  intro W base args ds gs before hval hW _ hsz _
  exact indexTells_post H enc W base args ds gs before hval hW hsz

theorem indexTells_holds : Rows.IndexTellsSaid :=
  OpenClaim.holds_of_wide 3 Try.f3 rfl rfl rfl rfl rfl rfl rfl ⟨rfl, rfl, rfl, rfl, rfl⟩ rfl rfl rfl rfl rfl (by kernel_rfl) Try.func3 (by kernel_rfl)
    (of_decide_eq_true (by kernel_rfl)) (by unfold Func.isWrapper; first | (rw [if_pos (by decide +kernel)]; kernel_rfl) | (rw [if_neg (by decide +kernel)]; exact ⟨rfl, rfl⟩))
    (fun os started H enc _ => indexTells_lifted os started H enc)

end Go.Proofs.Ytdfbhlehfbckjaa
