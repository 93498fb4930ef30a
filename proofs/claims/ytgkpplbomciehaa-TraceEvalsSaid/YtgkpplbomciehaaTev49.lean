/- Arguments of a law, opened: programs, expressions, lists of numbers. TraceEvals answers true for every input, and the input reads as it did. No conditions. Each lemma states its own conditions. -/
import Derived.Test.YtgkpplbomciehaaTev48
import Derived.Test.YtgkpplbomciehaaTev06
import Derived.Test.YtgkpplbomciehaaTev47
namespace Go.Proofs.Ytgkpplbomciehaa
open Go.ChangeShapes Go.WideShapes Go.ChangeAt Go.RowKit
section
variable {H : Type} {enc : TypeId × Value → H} {P : Program} {W : World}
/-- a slice whose elements open with less fuel -/
theorem open_slF {α : Type} {r : Rep α} {t e : TypeId} (ht : P.underlying t = some (.slice e)) (hC : P.cellsOf e = r.size) (h0 : 0 < r.size) {fuel : Nat}
    (hel : ∀ m, m < fuel → ∀ (cs : List Value) (y : DataW H × List MemPlace), cs.length = r.size → DataW.trod enc P W 0 (fun _ => true) true m e cs = some y → ∃ x, r.R W cs x)
    {cs : List Value} {x : DataW H × List MemPlace} (h : DataW.trod enc P W 0 (fun _ => true) true fuel t cs = some x) : ∃ v xs, cs = [v] ∧ Sl r W v xs := by
  rcases DataW.trod_slice ht h with ⟨hc, _⟩ | ⟨a, len, cap, elems, rest, m, hm, hc, _, _, hlc, hcm, hel2, hei, _, _⟩
  · exact ⟨.slice none 0 0, [], hc, Sl.nil_ _ _⟩
  · have hx : ∀ i, i < len → ∃ x cs', r.R W cs' x ∧ ∀ j, j < r.size → W.cell? ((a.add (i * r.size)).add j) = cs'[j]? := fun i hi => by
      have h5 := hei i hi
      rw [hC, List.getElem?_eq_getElem (by omega)] at h5
      obtain ⟨cs', hcs, htr⟩ := Option.bind_eq_some_iff.1 h5
      obtain ⟨_, hl, hcell⟩ := World.cells?_some hcs
      obtain ⟨x, hq⟩ := hel m (by omega) cs' _ hl htr
      exact ⟨x, cs', hq, hcell⟩
    refine ⟨.slice (some a) len cap, (List.range len).pmap (fun i hi' => Classical.choose (hx i hi')) (fun i hi' => List.mem_range.1 hi'), hc, ⟨some a, cap, by simp, by simpa using hlc, ⟨hcm, fun h => by cases h⟩, fun hp => ?_⟩⟩
    have hs : a.spot = none := by
      obtain ⟨x, cs', hq, hcell⟩ := hx 0 (by simpa using hp)
      refine cells_lit (w := W) (n := r.size) (cs := cs') (fun i hi' => ?_) (r.len hq) h0
      have := hcell i hi'
      simpa [Addr.add] using this
    obtain ⟨b, o, sp⟩ := a
    simp only at hs
    subst hs
    refine ⟨b, o, rfl, fun k x hk => ?_⟩
    rw [List.getElem?_pmap] at hk
    have hk2 : k < len := by
      rcases Nat.lt_or_ge k len with h | h
      · exact h
      · simp [h] at hk
    simp only [List.getElem?_range hk2, Option.pmap_some, Option.some.injEq] at hk
    obtain ⟨cs', hq, hcell⟩ := Classical.choose_spec (hx k hk2)
    rw [hk] at hq
    refine ⟨cs', hq, fun j u hu => ?_⟩
    have hj : j < r.size := by
      have := (List.getElem?_eq_some_iff.1 hu).1
      have h6 := r.len hq
      omega
    have h1 := hcell j hj
    rw [hu] at h1
    have e1 : ((⟨b, o, none⟩ : Addr).add (k * r.size)).add j = ⟨b, o + k * r.size + j, none⟩ := by
      unfold Addr.add
      by_cases hk0 : k * r.size = 0 <;> by_cases hj0 : j = 0 <;> simp [hk0, hj0]
    rw [e1] at h1
    exact h1
/-- the fields of a struct -/
theorem open_struct {fs : Array Field} {t : TypeId} {fuel : Nat} {cs : List Value} {y : DataW H × List MemPlace} (ht : P.underlying t = some (.struct fs)) (h : DataW.trod enc P W 0 (fun _ => true) true fuel t cs = some y) :
    cs.length = P.cellsOf t ∧ ∃ n, n < fuel ∧ ∀ (i : Nat) (f : Field), fs[i]? = some f → ∃ y', DataW.trod enc P W 0 (fun _ => true) true n f.type ((cs.drop f.offset).take (P.cellsOf f.type)) = some y' := by
  obtain ⟨xs, n, rfl, _, hlen, hxl, hg⟩ := DataW.trod_struct ht h
  refine ⟨hlen, n, by omega, fun i f hf => ?_⟩
  have h1 := hg i f hf
  have hi : i < xs.length := by
    rw [hxl]
    exact (Array.getElem?_eq_some_iff.1 hf).1
  rw [List.getElem?_eq_getElem hi] at h1
  exact ⟨_, h1⟩
end
theorem cEs : Try.prog.cellsOf 45 = 1 := by kernel_rfl
theorem cIs : Try.prog.cellsOf 23 = 1 := by kernel_rfl
theorem cE : Try.prog.cellsOf 47 = 3 := by kernel_rfl
section
variable {H : Type} {enc : TypeId × Value → H} {W : World}
set_option maxRecDepth 100000 in
theorem open_pe : ∀ (fuel : Nat) (cs : List Value) (y : DataW H × List MemPlace), DataW.trod enc Try.prog W 0 (fun _ => true) true fuel 47 cs = some y → ∃ q, PER W q cs := by
  intro fuel
  induction fuel using Nat.strongRecOn with
  | _ fuel ih =>
    intro cs y h
    obtain ⟨hl, n, hn, hg⟩ := open_struct Try.underlying47 h
    rw [cE] at hl
    have h0 : ∃ y', DataW.trod enc Try.prog W 0 (fun _ => true) true n 3 ((cs.drop 0).take (Try.prog.cellsOf 3)) = some y' := hg 0 _ rfl
    rw [cellsInt] at h0
    obtain ⟨y0, h0⟩ := h0
    have h1 : ∃ y', DataW.trod enc Try.prog W 0 (fun _ => true) true n 3 ((cs.drop 1).take (Try.prog.cellsOf 3)) = some y' := hg 1 _ rfl
    rw [cellsInt] at h1
    obtain ⟨y1, h1⟩ := h1
    have h2 : ∃ y', DataW.trod enc Try.prog W 0 (fun _ => true) true n 45 ((cs.drop 2).take (Try.prog.cellsOf 45)) = some y' := hg 2 _ rfl
    rw [cEs] at h2
    obtain ⟨y2, h2⟩ := h2
    match cs, hl with
    | [c0, c1, c2], _ =>
      obtain ⟨k0, e0, -, -⟩ := DataW.trod_int Try.underlying3 h0
      obtain ⟨k1, e1, -, -⟩ := DataW.trod_int Try.underlying3 h1
      obtain ⟨v, xs, e2, hsl⟩ := open_slF (r := peR) Try.underlying45 cE (by decide) (fun m hm cs y _ h => ih m (by omega) cs y h) h2
      have f0 : c0 = .int .i64 k0 := by simpa using e0
      have f1 : c1 = .int .i64 k1 := by simpa using e1
      have f2 : c2 = v := by simpa using e2
      subst f0 f1 f2
      exact ⟨.mk k0 k1 xs, PER.shut hsl⟩
set_option maxRecDepth 100000 in
/-- an argument that is an expression -/
theorem open_expr {r : Go.Reach} {base : Nat} {v : Value} {d : DataW H} {p : List MemPlace} (hv : Value.okWide Try.prog W r base 47 v)
    (h : DataW.Trod enc Try.prog W 0 (fun _ => true) true 47 v d p) : ∃ e, PEV W e v := by
  obtain ⟨cs, rfl, _⟩ := okWide_struct Try.underlying47 hv
  obtain ⟨fuel, hf⟩ := h
  obtain ⟨⟨k, n, args⟩, hq⟩ := open_pe fuel _ _ hf
  refine ⟨.mk k n args, ?_⟩
  obtain ⟨u, he, hs⟩ := PER.opened hq
  refine ⟨u, ?_, hs⟩
  have h2 : (Value.agg cs).cells = #[.int .i64 k, .int .i64 n, u] := by rw [← Array.toArray_toList (xs := (Value.agg cs).cells), he]
  have h3 : cs = #[.int .i64 k, .int .i64 n, u] := h2
  rw [h3]
  rfl
end
/-- a slice whose elements open, with what each datum is -/
theorem open_slD {H : Type} {enc : TypeId × Value → H} {P : Program} {W : World} {α : Type} {r : Rep α} {okD : α → DataW H → Prop} {t e : TypeId} (ht : P.underlying t = some (.slice e)) (hC : P.cellsOf e = r.size) (h0 : 0 < r.size)
    (hel : ∀ (n : Nat) (cs : List Value) (y : DataW H × List MemPlace), cs.length = r.size → DataW.trod enc P W 0 (fun _ => true) true n e cs = some y → ∃ x, r.R W cs x ∧ okD x y.1)
    {fuel : Nat} {cs : List Value} {x : DataW H × List MemPlace} (h : DataW.trod enc P W 0 (fun _ => true) true fuel t cs = some x) :
    ∃ v xs, cs = [v] ∧ Sl r W v xs ∧ ((x.1 = .nil ∧ xs = []) ∨ ∃ elems spare, x.1 = .slice elems spare ∧ elems.length = xs.length ∧ ∀ (i : Nat) x d, xs[i]? = some x → elems[i]? = some d → okD x d) := by
  rcases Deep.open_slice ht h with ⟨rfl, rfl⟩ | ⟨a, len, cap, m, n, D, Pl, rfl, _, hlc, hcm, hm, rfl, hi⟩
  · exact ⟨_, [], rfl, Sl.nil_ _ _, .inl ⟨rfl, rfl⟩⟩
  · simp only [if_true] at hm
    subst hm
    rw [hC] at hi
    have hx : ∀ i, i < len → ∃ x, okD x (D i) ∧ ∃ cs', r.R W cs' x ∧ ∀ j, j < r.size → W.cell? ((a.add (i * r.size)).add j) = cs'[j]? := fun i hlt => by
      obtain ⟨cs', hc, htr⟩ := hi i (by omega)
      obtain ⟨_, hl, hcell⟩ := World.cells?_some hc
      obtain ⟨x, hR, hok⟩ := hel _ _ _ hl htr
      exact ⟨x, hok, cs', hR, hcell⟩
    have hspot : 0 < len → a.spot = none := fun hp => by
      obtain ⟨x, _, cs', hR, hcell⟩ := hx 0 hp
      refine cells_lit (w := W) (n := r.size) (cs := cs') (fun i hi' => ?_) (r.len hR) h0
      have := hcell i hi'
      simpa [Addr.add] using this
    refine ⟨_, (List.range len).pmap (fun i hi' => Classical.choose (hx i hi')) (fun i hi' => List.mem_range.1 hi'), rfl, ⟨some a, m, by simp, by simpa using hlc, ⟨hcm, fun h => by cases h⟩, fun hp => ?_⟩, .inr ⟨_, _, rfl, by simp, fun i x d hk hd => ?_⟩⟩
    · have hs := hspot (by simpa using hp)
      obtain ⟨b, o, sp⟩ := a
      simp only at hs
      subst hs
      refine ⟨b, o, rfl, fun k x hk => ?_⟩
      rw [List.getElem?_pmap] at hk
      have hk2 : k < len := by
        rcases Nat.lt_or_ge k len with h | h
        · exact h
        · simp [h] at hk
      simp only [List.getElem?_range hk2, Option.pmap_some, Option.some.injEq] at hk
      obtain ⟨_, cs', hR, hcell⟩ := Classical.choose_spec (hx k hk2)
      rw [hk] at hR
      refine ⟨cs', hR, fun j u hu => ?_⟩
      have hj : j < r.size := by rw [← r.len hR]; exact (List.getElem?_eq_some_iff.1 hu).1
      have h1 := hcell j hj
      rw [hu] at h1
      have e1 : ((⟨b, o, none⟩ : Addr).add (k * r.size)).add j = ⟨b, o + k * r.size + j, none⟩ := by
        unfold Addr.add
        by_cases hk0 : k * r.size = 0 <;> by_cases hj0 : j = 0 <;> simp [hk0, hj0]
      rw [e1] at h1
      exact h1
    · rw [List.getElem?_pmap] at hk
      have hk2 : i < len := by
        rcases Nat.lt_or_ge i len with h | h
        · exact h
        · simp [h] at hk
      simp only [List.getElem?_range hk2, Option.pmap_some, Option.some.injEq] at hk
      have h1 := (Classical.choose_spec (hx i hk2)).1
      rw [hk] at h1
      rw [List.getElem?_map, List.getElem?_range hk2, Option.map_some] at hd
      obtain rfl := Option.some.inj hd
      exact h1
theorem weights_mem_all {H : Type} {P : Program} {e : TypeId} : ∀ {ds : List (DataW H)} {i : Nat} {d : DataW H}, ds[i]? = some d → ∀ n ∈ d.weights P e, n ∈ DataW.weightsAll P e ds
  | [], _, _, h, _, _ => by simp at h
  | x :: r, 0, d, h, n, hn => by
    obtain rfl : x = d := by simpa using h
    rw [DataW.weightsAll, List.mem_append]
    exact Or.inl hn
  | x :: r, i + 1, d, h, n, hn => by
    rw [DataW.weightsAll, List.mem_append]
    exact Or.inr (weights_mem_all (i := i) (by simpa using h) n hn)
theorem bytesI : Try.prog.bytesOf 3 = 8 := by kernel_rfl
theorem bytesIs : Try.prog.bytesOf 23 = 24 := by kernel_rfl
def IntsD {H : Type} (xs : List Int) (d : DataW H) : Prop := (d = .nil ∧ xs = []) ∨ ∃ elems spare, d = .slice elems spare ∧ elems.length = xs.length
/-- an argument that is a list of lists of numbers -/
theorem open_intss {H : Type} {enc : TypeId × Value → H} {W : World} {v : Value} {d : DataW H} {p : List MemPlace} (hv : ∃ a len cap, v = .slice a len cap) (h : DataW.Trod enc Try.prog W 0 (fun _ => true) true 24 v d p) :
    ∃ xs : List (List Int), Sl (Rep.slice intR) W v xs ∧ ((d = .nil ∧ xs = []) ∨ ∃ elems spare, d = .slice elems spare ∧ elems.length = xs.length ∧ ∀ (i : Nat) x dd, xs[i]? = some x → elems[i]? = some dd → IntsD x dd) := by
  obtain ⟨a, len, cap, rfl⟩ := hv
  obtain ⟨fuel, hf⟩ := h
  obtain ⟨v, xs, hc, hs, hd⟩ := open_slD (r := Rep.slice intR) (okD := IntsD) Try.underlying24 cIs (by decide) (fun n cs y _ h => by
    obtain ⟨v, xs, rfl, hs, _, hd⟩ := open_sl Try.underlying23 cellsInt (by decide) (opens_int Try.underlying3) h
    exact ⟨xs, ⟨v, rfl, hs⟩, hd⟩) hf
  simp only [Value.cells, List.cons.injEq, and_true] at hc
  subst hc
  exact ⟨xs, hs, hd⟩
/-- .. is not longer than the form's reach lets it be, nor is one of them -/
theorem intss_short {H : Type} {ts : List TypeId} {ds : List (DataW H)} (hsz : (DataW.weightsEach Try.prog ts ds).all (· ≤ reachBytes) = true) {j : Nat} {d : DataW H} (ht : ts[j]? = some 24) (hd : ds[j]? = some d) {xs : List (List Int)}
    (h : (d = .nil ∧ xs = []) ∨ ∃ elems spare, d = .slice elems spare ∧ elems.length = xs.length ∧ ∀ (i : Nat) x dd, xs[i]? = some x → elems[i]? = some dd → IntsD x dd) : xs.length * 24 ≤ 140737488351232 ∧ ∀ v ∈ xs, v.length * 8 ≤ 140737488351232 := by
  rcases h with ⟨_, rfl⟩ | ⟨elems, spare, rfl, hl, hi⟩
  · simp
  · refine ⟨?_, fun v hv => ?_⟩
    · have := sized_slice hsz ht hd Try.underlying24
      rw [bytesIs, hl] at this
      simp only [reachBytes] at this
      omega
    · obtain ⟨i, hx⟩ := List.getElem?_of_mem hv
      obtain ⟨dd, hdd⟩ : ∃ dd, elems[i]? = some dd := ⟨_, List.getElem?_eq_getElem (by rw [hl]; exact (List.getElem?_eq_some_iff.1 hx).1)⟩
      rcases hi i v dd hx hdd with ⟨_, rfl⟩ | ⟨el2, sp2, rfl, hl2⟩
      · simp
      · have h1 : ((el2.length + sp2.length) * 8) ∈ DataW.weightsEach Try.prog ts ds := by
          refine DataW.weights_mem_each ht hd _ ?_
          rw [DataW.weights, Try.underlying24]
          simp only [List.mem_cons, List.mem_append]
          refine Or.inr (Or.inl (weights_mem_all hdd _ ?_))
          rw [DataW.weights, Try.underlying23]
          simp only [List.mem_cons, bytesI, true_or]
        have h2 := List.all_eq_true.1 hsz _ h1
        have h3 : (el2.length + sp2.length) * 8 ≤ reachBytes := by simpa using h2
        simp only [reachBytes] at h3
        omega
end Go.Proofs.Ytgkpplbomciehaa
namespace Go.Proofs.Ytgkpplbomciehaa
open Go.ChangeShapes Go.WideShapes Go.ChangeAt Go.RowKit
set_option maxRecDepth 100000 in
theorem traceEvals_post (H : Type) (enc : TypeId × Value → H) (W : World) (base : Nat) (args : Array Value) (ds gs : List (DataW H)) (before : List MemPlace)
    (hval : ∀ (j : Nat) t v, Try.f5.params[j]? = some t → args[j]? = some v → Value.okWide Try.prog W .any base t v)
    (hW : DataW.Whole enc Try.prog Try.f5.params.toList Rows.traceEvalsSpec.vars false W args.toList ds gs before)
    (hsz : (DataW.weightsEach Try.prog (Try.f5.params.toList ++ Rows.traceEvalsSpec.plain.varTypes Try.prog) (ds ++ gs)).all (· ≤ reachBytes) = true) :
    Calls Try.prog 5 args W fun e W' => ∃ v, e = .returned v ∧ Rows.traceEvalsSpec.post enc Try.prog Try.f5 false true false false W args v W' := by
  have hW' := hW
  obtain ⟨p, q, hA, hV, rfl, _, _⟩ := hW
  rw [Try.params5] at hA hval hsz
  obtain ⟨v0, vs0, d0, ds0, p0, q0, hargs, rfl, rfl, h0, r0⟩ := trodAll_cons hA
  obtain ⟨v1, vs1, d1, ds1, p1, q1, rfl, rfl, rfl, h1, r1⟩ := trodAll_cons r0
  obtain ⟨rfl, rfl, rfl⟩ := trodAll_nil r1
  obtain rfl : args = #[v0, v1] := by cases args; simp_all
  obtain ⟨rfl, rfl⟩ := trodVars_none hV
  obtain ⟨x0, hs0⟩ := open_expr (hval 0 47 v0 rfl rfl) h0
  obtain ⟨x1, hs1, hd1⟩ := open_intss (okWide_slice Try.underlying24 (hval 1 24 v1 rfl rfl)) h1
  have hlen1 := intss_short hsz (j := 1) rfl rfl hd1
  refine (evals_any x0 x1 v0 v1 W hs0 hs1 hlen1).mono fun e W' ⟨he, hb⟩ => ?_
  subst he
  refine ⟨_, rfl, law_post rfl rfl Try.underlying4 laidOutK ?_ hW' rfl hb⟩
  rw [Try.params5]
  intro t ht
  simp only [List.mem_cons, List.not_mem_nil, or_false] at ht
  rcases ht with rfl | rfl <;> exact ⟨by kernel_rfl, of_decide_eq_true (by kernel_rfl)⟩
set_option maxRecDepth 100000 in
theorem traceEvals_lifted (os : Os) (started : os.Started) (H : Type) (enc : TypeId × Value → H) :
    ReturnsInHanded {} Try.checked os 5 .any (Rows.traceEvalsSpec.pre6 enc Try.prog Try.f5 Rows.traceEvalsRow.domain false) (Rows.traceEvalsSpec.post enc Try.prog Try.f5 false true false false) := by
  refine returnsInHanded_of_change_sized (C := Try.checked) ownK started (by kernel_rfl) Try.func5
    (ChangeSpec.witness6 (enc := enc) (C := Try.checked) false ⟨#[], #[.agg #[.int .i64 0, .int .i64 0, .slice none 0 0], .slice none 0 0], []⟩ 8 (by kernel_rfl) (by kernel_rfl) (by kernel_rfl) (by kernel_rfl)) ?_
  intro W base args ds gs before hval hW _ hsz _
  exact traceEvals_post H enc W base args ds gs before hval hW hsz
theorem traceEvals_holds : Rows.TraceEvalsSaid :=
  OpenClaim.holds_of_wide 5 Try.f5 rfl rfl rfl rfl rfl rfl rfl ⟨rfl, rfl, rfl, rfl, rfl⟩ rfl rfl rfl rfl rfl (by kernel_rfl) Try.func5 (by kernel_rfl)
    (of_decide_eq_true (by kernel_rfl)) (by unfold Func.isWrapper; first | (rw [if_pos (by decide +kernel)]; kernel_rfl) | (rw [if_neg (by decide +kernel)]; exact ⟨rfl, rfl⟩))
    (fun os started H enc _ => traceEvals_lifted os started H enc)
end Go.Proofs.Ytgkpplbomciehaa
