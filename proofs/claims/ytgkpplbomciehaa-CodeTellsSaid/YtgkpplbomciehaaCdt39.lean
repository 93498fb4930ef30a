/- An argument of a law that is code, opened. CodeTells answers true for every input, and the input reads as it did. No conditions. Each lemma states its own conditions. -/
import Derived.Test.YtgkpplbomciehaaCdt38
import Derived.Test.YtgkpplbomciehaaCdt27
import Derived.Test.YtgkpplbomciehaaCdt36
namespace Go.Proofs.Ytgkpplbomciehaa
open Go.ChangeShapes Go.WideShapes Go.ChangeAt Go.RowKit
theorem cNs : Try.prog.cellsOf 22 = 1 := by kernel_rfl
theorem cNI : Try.prog.cellsOf 96 = 3 := by kernel_rfl
theorem cVs : Try.prog.cellsOf 24 = 1 := by kernel_rfl
theorem cCD : Try.prog.cellsOf 26 = 3 := by kernel_rfl
section
variable {H : Type} {enc : TypeId × Value → H} {W : World}
set_option maxRecDepth 100000 in
theorem open_in (fuel : Nat) (cs : List Value) (y : DataW H × List MemPlace) (h : DataW.trod enc Try.prog W 0 (fun _ => true) true fuel 96 cs = some y) : ∃ q : Ins, insR.R W cs q := by
  obtain ⟨hl, n, hn, hg⟩ := open_struct Try.underlying96 h
  rw [cNI] at hl
  have h0 : ∃ y', DataW.trod enc Try.prog W 0 (fun _ => true) true n 3 ((cs.drop 0).take (Try.prog.cellsOf 3)) = some y' := hg 0 _ rfl
  rw [cellsInt] at h0
  obtain ⟨y0, h0⟩ := h0
  have h1 : ∃ y', DataW.trod enc Try.prog W 0 (fun _ => true) true n 3 ((cs.drop 1).take (Try.prog.cellsOf 3)) = some y' := hg 1 _ rfl
  rw [cellsInt] at h1
  obtain ⟨y1, h1⟩ := h1
  have h2 : ∃ y', DataW.trod enc Try.prog W 0 (fun _ => true) true n 3 ((cs.drop 2).take (Try.prog.cellsOf 3)) = some y' := hg 2 _ rfl
  rw [cellsInt] at h2
  obtain ⟨y2, h2⟩ := h2
  match cs, hl with
  | [c0, c1, c2], _ =>
    obtain ⟨k0, e0, -, -⟩ := DataW.trod_int Try.underlying3 h0
    obtain ⟨k1, e1, -, -⟩ := DataW.trod_int Try.underlying3 h1
    obtain ⟨k2, e2, -, -⟩ := DataW.trod_int Try.underlying3 h2
    have f0 : c0 = .int .i64 k0 := by simpa using e0
    have f1 : c1 = .int .i64 k1 := by simpa using e1
    have f2 : c2 = .int .i64 k2 := by simpa using e2
    subst f0 f1 f2
    exact ⟨⟨k0, k1, k2⟩, rfl⟩
set_option maxRecDepth 100000 in
/-- an argument that is code -/
theorem open_code {r : Go.Reach} {base : Nat} {v : Value} {d : DataW H} {p : List MemPlace} (hv : Value.okWide Try.prog W r base 26 v)
    (h : DataW.Trod enc Try.prog W 0 (fun _ => true) true 26 v d p) : ∃ c, CodeR W v c := by
  obtain ⟨cs, rfl, _⟩ := okWide_struct Try.underlying26 hv
  obtain ⟨fuel, hf⟩ := h
  obtain ⟨hl, n, hn, hg⟩ := open_struct Try.underlying26 hf
  rw [cCD] at hl
  have h0 : ∃ y', DataW.trod enc Try.prog W 0 (fun _ => true) true n 22 (((Value.agg cs).cells.toList.drop 0).take (Try.prog.cellsOf 22)) = some y' := hg 0 _ rfl
  rw [cNs] at h0
  obtain ⟨y0, h0⟩ := h0
  have h1 : ∃ y', DataW.trod enc Try.prog W 0 (fun _ => true) true n 23 (((Value.agg cs).cells.toList.drop 1).take (Try.prog.cellsOf 23)) = some y' := hg 1 _ rfl
  rw [cIs] at h1
  obtain ⟨y1, h1⟩ := h1
  have h2 : ∃ y', DataW.trod enc Try.prog W 0 (fun _ => true) true n 24 (((Value.agg cs).cells.toList.drop 2).take (Try.prog.cellsOf 24)) = some y' := hg 2 _ rfl
  rw [cVs] at h2
  obtain ⟨y2, h2⟩ := h2
  obtain ⟨v0, l0, e0, s0⟩ := open_slF (r := insR) Try.underlying22 cNI (by decide) (fun m hm cs y _ h => open_in m cs y h) h0
  obtain ⟨v1, l1, e1, s1, _, _⟩ := open_sl Try.underlying23 cellsInt (by decide) (opens_int Try.underlying3) h1
  obtain ⟨v2, l2, e2, s2, _⟩ := open_slD (r := intsR) (okD := fun _ _ => True) Try.underlying24 cIs (by decide) (fun n cs y _ h => by
    obtain ⟨v, xs, rfl, hs, _, _⟩ := open_sl Try.underlying23 cellsInt (by decide) (opens_int Try.underlying3) h
    exact ⟨xs, ⟨v, rfl, hs⟩, trivial⟩) h2
  refine ⟨⟨l0, l1, l2⟩, v0, v1, v2, ?_, s0, s1, s2⟩
  have hc : (Value.agg cs).cells.toList = [v0, v1, v2] := by
    generalize (Value.agg cs).cells.toList = L at hl e0 e1 e2
    match L, hl with
    | [c0, c1, c2], _ =>
      have f0 : c0 = v0 := by simpa using e0
      have f1 : c1 = v1 := by simpa using e1
      have f2 : c2 = v2 := by simpa using e2
      rw [f0, f1, f2]
  have h2 : (Value.agg cs).cells = #[v0, v1, v2] := by rw [← Array.toArray_toList (xs := (Value.agg cs).cells), hc]
  have h3 : cs = #[v0, v1, v2] := h2
  rw [h3]
end
end Go.Proofs.Ytgkpplbomciehaa
namespace Go.Proofs.Ytgkpplbomciehaa
open Go.ChangeShapes Go.WideShapes Go.ChangeAt Go.RowKit
set_option maxRecDepth 100000 in
theorem codeTells_post (H : Type) (enc : TypeId × Value → H) (W : World) (base : Nat) (args : Array Value) (ds gs : List (DataW H)) (before : List MemPlace)
    (hval : ∀ (j : Nat) t v, Try.f4.params[j]? = some t → args[j]? = some v → Value.okWide Try.prog W .any base t v)
    (hW : DataW.Whole enc Try.prog Try.f4.params.toList Rows.codeTellsSpec.vars false W args.toList ds gs before)
    (hsz : (DataW.weightsEach Try.prog (Try.f4.params.toList ++ Rows.codeTellsSpec.plain.varTypes Try.prog) (ds ++ gs)).all (· ≤ reachBytes) = true) :
    Calls Try.prog 4 args W fun e W' => ∃ v, e = .returned v ∧ Rows.codeTellsSpec.post enc Try.prog Try.f4 false true false false W args v W' := by
  have hW' := hW
  obtain ⟨p, q, hA, hV, rfl, _, _⟩ := hW
  rw [Try.params4] at hA hval hsz
  obtain ⟨v0, vs0, d0, ds0, p0, q0, hargs, rfl, rfl, h0, r0⟩ := trodAll_cons hA
  obtain ⟨v1, vs1, d1, ds1, p1, q1, rfl, rfl, rfl, h1, r1⟩ := trodAll_cons r0
  obtain ⟨rfl, rfl, rfl⟩ := trodAll_nil r1
  obtain rfl : args = #[v0, v1] := by cases args; simp_all
  obtain ⟨rfl, rfl⟩ := trodVars_none hV
  obtain ⟨x0, hs0⟩ := open_code (hval 0 26 v0 rfl rfl) h0
  obtain ⟨x1, u1, rfl, hs1⟩ := open_prg (hval 1 40 v1 rfl rfl) h1
  refine (codes_any x0 x1 v0 u1 W hs0 hs1).mono fun e W' ⟨he, hb⟩ => ?_
  subst he
  refine ⟨_, rfl, law_post rfl rfl Try.underlying4 laidOutK ?_ hW' rfl hb⟩
  rw [Try.params4]
  intro t ht
  simp only [List.mem_cons, List.not_mem_nil, or_false] at ht
  rcases ht with rfl | rfl <;> exact ⟨by kernel_rfl, of_decide_eq_true (by kernel_rfl)⟩
set_option maxRecDepth 100000 in
theorem codeTells_lifted (os : Os) (started : os.Started) (H : Type) (enc : TypeId × Value → H) :
    ReturnsInHanded {} Try.checked os 4 .any (Rows.codeTellsSpec.pre6 enc Try.prog Try.f4 Rows.codeTellsRow.domain false) (Rows.codeTellsSpec.post enc Try.prog Try.f4 false true false false) := by
  refine returnsInHanded_of_change_sized (C := Try.checked) ownK started (by kernel_rfl) Try.func4
    (ChangeSpec.witness6 (enc := enc) (C := Try.checked) false ⟨#[], #[.agg #[.slice none 0 0, .slice none 0 0, .slice none 0 0], .agg #[.slice none 0 0]], []⟩ 8 (by kernel_rfl) (by kernel_rfl) (by kernel_rfl) (by kernel_rfl)) ?_
  intro W base args ds gs before hval hW _ hsz _
  exact codeTells_post H enc W base args ds gs before hval hW hsz
theorem codeTells_holds : Rows.CodeTellsSaid :=
  OpenClaim.holds_of_wide 4 Try.f4 rfl rfl rfl rfl rfl rfl rfl ⟨rfl, rfl, rfl, rfl, rfl⟩ rfl rfl rfl rfl rfl (by kernel_rfl) Try.func4 (by kernel_rfl)
    (of_decide_eq_true (by kernel_rfl)) (by unfold Func.isWrapper; first | (rw [if_pos (by decide +kernel)]; kernel_rfl) | (rw [if_neg (by decide +kernel)]; exact ⟨rfl, rfl⟩))
    (fun os started H enc _ => codeTells_lifted os started H enc)
end Go.Proofs.Ytgkpplbomciehaa
