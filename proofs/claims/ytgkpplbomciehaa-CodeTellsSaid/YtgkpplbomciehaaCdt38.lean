/- Arguments of a law, opened: programs, expressions, lists of numbers. Each lemma states its own conditions. -/
import Derived.Test.YtgkpplbomciehaaCdt37
import Derived.Test.YtgkpplbomciehaaCdt07
namespace Go.Proofs.Ytgkpplbomciehaa
open Go.ChangeShapes Go.WideShapes Go.ChangeAt Go.RowKit
section
variable {H : Type} {enc : TypeId × Value → H} {P : Program} {W : World}
/-- a slice whose elements open with less fuel -/
theorem open_slF {α : Type} {r : Rep α} {t e : TypeId} (ht : P.underlying t = some (.slice e)) (hC : P.cellsOf e = r.size) (h0 : 0 < r.size) {fuel : Nat}
    (hel : ∀ m, m < fuel → ∀ (cs : List Value) (y : DataW H × List MemPlace), cs.length = r.size → DataW.trod enc P W 0 (fun _ => true) true m e cs = some y → ∃ x, r.R W cs x)
    {cs : List Value} {x : DataW H × List MemPlace} (h : DataW.trod enc P W 0 (fun _ => true) true fuel t cs = some x) : ∃ v xs, cs = [v] ∧ Sl r W v xs := by
  rcases DataW.trod_slice ht h with ⟨hc, _⟩ | ⟨a, len, cap, elems, rest, m, hm, hc, _, _, hlc, hcm, hel2, hei, _, _⟩
  · exact ⟨.slice none 0 0, [], hc, Sl.nil_ _ _⟩
  · have hx : ∀ i, i < len → ∃ x cs', r.R W cs' x ∧ ∀ j, j < r.size → W.cell? ((a.add (i * r.size)).add j) = cs'[j]? := fun i hi => by
      have h5 := hei i hi
      rw [hC, List.getElem?_eq_getElem (by omega)] at h5
      obtain ⟨cs', hcs, htr⟩ := Option.bind_eq_some_iff.1 h5
      obtain ⟨_, hl, hcell⟩ := World.cells?_some hcs
      obtain ⟨x, hq⟩ := hel m (by omega) cs' _ hl htr
      exact ⟨x, cs', hq, hcell⟩
    refine ⟨.slice (some a) len cap, (List.range len).pmap (fun i hi' => Classical.choose (hx i hi')) (fun i hi' => List.mem_range.1 hi'), hc, ⟨some a, cap, by simp, by simpa using hlc, ⟨hcm, fun h => by cases h⟩, fun hp => ?_⟩⟩
    have hs : a.spot = none := by
      obtain ⟨x, cs', hq, hcell⟩ := hx 0 (by simpa using hp)
      refine cells_lit (w := W) (n := r.size) (cs := cs') (fun i hi' => ?_) (r.len hq) h0
      have := hcell i hi'
      simpa [Addr.add] using this
    obtain ⟨b, o, sp⟩ := a
    simp only at hs
    subst hs
    refine ⟨b, o, rfl, fun k x hk => ?_⟩
    rw [List.getElem?_pmap] at hk
    have hk2 : k < len := by
      rcases Nat.lt_or_ge k len with h | h
      · exact h
      · simp [h] at hk
    simp only [List.getElem?_range hk2, Option.pmap_some, Option.some.injEq] at hk
    obtain ⟨cs', hq, hcell⟩ := Classical.choose_spec (hx k hk2)
    rw [hk] at hq
    refine ⟨cs', hq, fun j u hu => ?_⟩
    have hj : j < r.size := by
      have := (List.getElem?_eq_some_iff.1 hu).1
      have h6 := r.len hq
      omega
    have h1 := hcell j hj
    rw [hu] at h1
    have e1 : ((⟨b, o, none⟩ : Addr).add (k * r.size)).add j = ⟨b, o + k * r.size + j, none⟩ := by
      unfold Addr.add
      by_cases hk0 : k * r.size = 0 <;> by_cases hj0 : j = 0 <;> simp [hk0, hj0]
    rw [e1] at h1
    exact h1
/-- the fields of a struct -/
theorem open_struct {fs : Array Field} {t : TypeId} {fuel : Nat} {cs : List Value} {y : DataW H × List MemPlace} (ht : P.underlying t = some (.struct fs)) (h : DataW.trod enc P W 0 (fun _ => true) true fuel t cs = some y) :
    cs.length = P.cellsOf t ∧ ∃ n, n < fuel ∧ ∀ (i : Nat) (f : Field), fs[i]? = some f → ∃ y', DataW.trod enc P W 0 (fun _ => true) true n f.type ((cs.drop f.offset).take (P.cellsOf f.type)) = some y' := by
  obtain ⟨xs, n, rfl, _, hlen, hxl, hg⟩ := DataW.trod_struct ht h
  refine ⟨hlen, n, by omega, fun i f hf => ?_⟩
  have h1 := hg i f hf
  have hi : i < xs.length := by
    rw [hxl]
    exact (Array.getElem?_eq_some_iff.1 hf).1
  rw [List.getElem?_eq_getElem hi] at h1
  exact ⟨_, h1⟩
end
theorem cEs : Try.prog.cellsOf 45 = 1 := by kernel_rfl
theorem cCs : Try.prog.cellsOf 76 = 1 := by kernel_rfl
theorem cFs : Try.prog.cellsOf 38 = 1 := by kernel_rfl
theorem cIs : Try.prog.cellsOf 23 = 1 := by kernel_rfl
theorem cE : Try.prog.cellsOf 47 = 3 := by kernel_rfl
theorem cC : Try.prog.cellsOf 120 = 12 := by kernel_rfl
theorem cF : Try.prog.cellsOf 78 = 6 := by kernel_rfl
theorem cT : Try.prog.cellsOf 40 = 1 := by kernel_rfl
section
variable {H : Type} {enc : TypeId × Value → H} {W : World}
set_option maxRecDepth 100000 in
theorem open_pe : ∀ (fuel : Nat) (cs : List Value) (y : DataW H × List MemPlace), DataW.trod enc Try.prog W 0 (fun _ => true) true fuel 47 cs = some y → ∃ q, PER W q cs := by
  intro fuel
  induction fuel using Nat.strongRecOn with
  | _ fuel ih =>
    intro cs y h
    obtain ⟨hl, n, hn, hg⟩ := open_struct Try.underlying47 h
    rw [cE] at hl
    have h0 : ∃ y', DataW.trod enc Try.prog W 0 (fun _ => true) true n 3 ((cs.drop 0).take (Try.prog.cellsOf 3)) = some y' := hg 0 _ rfl
    rw [cellsInt] at h0
    obtain ⟨y0, h0⟩ := h0
    have h1 : ∃ y', DataW.trod enc Try.prog W 0 (fun _ => true) true n 3 ((cs.drop 1).take (Try.prog.cellsOf 3)) = some y' := hg 1 _ rfl
    rw [cellsInt] at h1
    obtain ⟨y1, h1⟩ := h1
    have h2 : ∃ y', DataW.trod enc Try.prog W 0 (fun _ => true) true n 45 ((cs.drop 2).take (Try.prog.cellsOf 45)) = some y' := hg 2 _ rfl
    rw [cEs] at h2
    obtain ⟨y2, h2⟩ := h2
    match cs, hl with
    | [c0, c1, c2], _ =>
      obtain ⟨k0, e0, -, -⟩ := DataW.trod_int Try.underlying3 h0
      obtain ⟨k1, e1, -, -⟩ := DataW.trod_int Try.underlying3 h1
      obtain ⟨v, xs, e2, hsl⟩ := open_slF (r := peR) Try.underlying45 cE (by decide) (fun m hm cs y _ h => ih m (by omega) cs y h) h2
      have f0 : c0 = .int .i64 k0 := by simpa using e0
      have f1 : c1 = .int .i64 k1 := by simpa using e1
      have f2 : c2 = v := by simpa using e2
      subst f0 f1 f2
      exact ⟨.mk k0 k1 xs, PER.shut hsl⟩
set_option maxRecDepth 100000 in
theorem open_pc : ∀ (fuel : Nat) (cs : List Value) (y : DataW H × List MemPlace), DataW.trod enc Try.prog W 0 (fun _ => true) true fuel 120 cs = some y → ∃ q, PCR W q cs := by
  intro fuel
  induction fuel using Nat.strongRecOn with
  | _ fuel ih =>
    intro cs y h
    obtain ⟨hl, n, hn, hg⟩ := open_struct Try.underlying120 h
    rw [cC] at hl
    have h0 : ∃ y', DataW.trod enc Try.prog W 0 (fun _ => true) true n 3 ((cs.drop 0).take (Try.prog.cellsOf 3)) = some y' := hg 0 _ rfl
    rw [cellsInt] at h0
    obtain ⟨y0, h0⟩ := h0
    have h1 : ∃ y', DataW.trod enc Try.prog W 0 (fun _ => true) true n 3 ((cs.drop 1).take (Try.prog.cellsOf 3)) = some y' := hg 1 _ rfl
    rw [cellsInt] at h1
    obtain ⟨y1, h1⟩ := h1
    have h2 : ∃ y', DataW.trod enc Try.prog W 0 (fun _ => true) true n 3 ((cs.drop 2).take (Try.prog.cellsOf 3)) = some y' := hg 2 _ rfl
    rw [cellsInt] at h2
    obtain ⟨y2, h2⟩ := h2
    have h3 : ∃ y', DataW.trod enc Try.prog W 0 (fun _ => true) true n 47 ((cs.drop 3).take (Try.prog.cellsOf 47)) = some y' := hg 3 _ rfl
    rw [cE] at h3
    obtain ⟨y3, h3⟩ := h3
    have h4 : ∃ y', DataW.trod enc Try.prog W 0 (fun _ => true) true n 47 ((cs.drop 6).take (Try.prog.cellsOf 47)) = some y' := hg 4 _ rfl
    rw [cE] at h4
    obtain ⟨y4, h4⟩ := h4
    have h5 : ∃ y', DataW.trod enc Try.prog W 0 (fun _ => true) true n 45 ((cs.drop 9).take (Try.prog.cellsOf 45)) = some y' := hg 5 _ rfl
    rw [cEs] at h5
    obtain ⟨y5, h5⟩ := h5
    have h6 : ∃ y', DataW.trod enc Try.prog W 0 (fun _ => true) true n 76 ((cs.drop 10).take (Try.prog.cellsOf 76)) = some y' := hg 6 _ rfl
    rw [cCs] at h6
    obtain ⟨y6, h6⟩ := h6
    have h7 : ∃ y', DataW.trod enc Try.prog W 0 (fun _ => true) true n 76 ((cs.drop 11).take (Try.prog.cellsOf 76)) = some y' := hg 7 _ rfl
    rw [cCs] at h7
    obtain ⟨y7, h7⟩ := h7
    match cs, hl with
    | [c0, c1, c2, i0, i1, i2, x0, x1, x2, ca, ct, ce], _ =>
      obtain ⟨k0, e0, -, -⟩ := DataW.trod_int Try.underlying3 h0
      obtain ⟨k1, e1, -, -⟩ := DataW.trod_int Try.underlying3 h1
      obtain ⟨k2, e2, -, -⟩ := DataW.trod_int Try.underlying3 h2
      obtain ⟨i, hi⟩ := open_pe n _ _ h3
      obtain ⟨e, he⟩ := open_pe n _ _ h4
      obtain ⟨va, args, e5, hsa⟩ := open_slF (r := peR) Try.underlying45 cE (by decide) (fun m hm cs y _ h => open_pe m cs y h) h5
      obtain ⟨vt, thn, e6, hst⟩ := open_slF (r := pcR) Try.underlying76 cC (by decide) (fun m hm cs y _ h => ih m (by omega) cs y h) h6
      obtain ⟨vs, els, e7, hsl⟩ := open_slF (r := pcR) Try.underlying76 cC (by decide) (fun m hm cs y _ h => ih m (by omega) cs y h) h7
      have f0 : c0 = .int .i64 k0 := by simpa using e0
      have f1 : c1 = .int .i64 k1 := by simpa using e1
      have f2 : c2 = .int .i64 k2 := by simpa using e2
      have f6 : ca = va := by simpa using e5
      have f7 : ct = vt := by simpa using e6
      have f8 : ce = vs := by simpa using e7
      subst f0 f1 f2 f6 f7 f8
      obtain ⟨ft, g1, g2⟩ := hst.frame
      obtain ⟨fe, g3, g4⟩ := hsl.frame
      exact ⟨.mk k0 k1 k2 i e args thn els, .mk k0 k1 k2 i e args thn els [i0, i1, i2] [x0, x1, x2] ca ct ce ft fe hi he hsa g1 g2 g3 g4⟩
set_option maxRecDepth 100000 in
theorem open_pf (fuel : Nat) (cs : List Value) (y : DataW H × List MemPlace) (h : DataW.trod enc Try.prog W 0 (fun _ => true) true fuel 78 cs = some y) : ∃ q, PFR W q cs := by
  obtain ⟨hl, n, hn, hg⟩ := open_struct Try.underlying78 h
  rw [cF] at hl
  have h0 : ∃ y', DataW.trod enc Try.prog W 0 (fun _ => true) true n 3 ((cs.drop 0).take (Try.prog.cellsOf 3)) = some y' := hg 0 _ rfl
  rw [cellsInt] at h0
  obtain ⟨y0, h0⟩ := h0
  have h1 : ∃ y', DataW.trod enc Try.prog W 0 (fun _ => true) true n 23 ((cs.drop 1).take (Try.prog.cellsOf 23)) = some y' := hg 1 _ rfl
  rw [cIs] at h1
  obtain ⟨y1, h1⟩ := h1
  have h2 : ∃ y', DataW.trod enc Try.prog W 0 (fun _ => true) true n 76 ((cs.drop 2).take (Try.prog.cellsOf 76)) = some y' := hg 2 _ rfl
  rw [cCs] at h2
  obtain ⟨y2, h2⟩ := h2
  have h3 : ∃ y', DataW.trod enc Try.prog W 0 (fun _ => true) true n 47 ((cs.drop 3).take (Try.prog.cellsOf 47)) = some y' := hg 3 _ rfl
  rw [cE] at h3
  obtain ⟨y3, h3⟩ := h3
  match cs, hl with
  | [c0, cz, cc, r0, r1, r2], _ =>
    obtain ⟨k0, e0, -, -⟩ := DataW.trod_int Try.underlying3 h0
    obtain ⟨vz, sizes, e1, hsz⟩ := open_slF (r := intR) Try.underlying23 cellsInt (by decide) (fun m hm cs y _ h => by
      obtain ⟨k, hk, -, -⟩ := DataW.trod_int Try.underlying3 h
      exact ⟨k, hk⟩) h1
    obtain ⟨vc, cmds, e2, hsc⟩ := open_slF (r := pcR) Try.underlying76 cC (by decide) (fun m hm cs y _ h => open_pc m cs y h) h2
    obtain ⟨e, he⟩ := open_pe n _ _ h3
    have f0 : c0 = .int .i64 k0 := by simpa using e0
    have f1 : cz = vz := by simpa using e1
    have f2 : cc = vc := by simpa using e2
    subst f0 f1 f2
    obtain ⟨ek, en, eargs⟩ := e
    obtain ⟨vr, hr, hsr⟩ := PER.opened he
    have hr2 : [r0, r1, r2] = [.int .i64 ek, .int .i64 en, vr] := hr
    injection hr2 with g0 hr2
    injection hr2 with g1 hr2
    injection hr2 with g2 hr2
    subst g0 g1 g2
    exact ⟨⟨k0, sizes, cmds, .mk ek en eargs⟩, cz, cc, r2, rfl, hsz, hsc, hsr⟩
set_option maxRecDepth 100000 in
/-- an argument that is a program -/
theorem open_prg {r : Go.Reach} {base : Nat} {v : Value} {d : DataW H} {p : List MemPlace} (hv : Value.okWide Try.prog W r base 40 v)
    (h : DataW.Trod enc Try.prog W 0 (fun _ => true) true 40 v d p) : ∃ l u, v = .agg #[u] ∧ Sl pfR W u l := by
  obtain ⟨cs, rfl, _⟩ := okWide_struct Try.underlying40 hv
  obtain ⟨fuel, hf⟩ := h
  obtain ⟨hl, n, hn, hg⟩ := open_struct Try.underlying40 hf
  rw [cT] at hl
  have h0 : ∃ y', DataW.trod enc Try.prog W 0 (fun _ => true) true n 38 (((Value.agg cs).cells.toList.drop 0).take (Try.prog.cellsOf 38)) = some y' := hg 0 _ rfl
  rw [cFs] at h0
  obtain ⟨y0, h0⟩ := h0
  obtain ⟨u, l, e0, hsl⟩ := open_slF (r := pfR) Try.underlying38 cF (by decide) (fun m hm cs y _ h => open_pf m cs y h) h0
  refine ⟨l, u, ?_, hsl⟩
  have hc : (Value.agg cs).cells.toList = [u] := by
    have h1 : ((Value.agg cs).cells.toList.drop 0).take 1 = [u] := e0
    rw [List.drop_zero, List.take_of_length_le (by rw [hl]; exact Nat.le_refl _)] at h1
    exact h1
  have h2 : (Value.agg cs).cells = #[u] := by rw [← Array.toArray_toList (xs := (Value.agg cs).cells), hc]
  have h3 : cs = #[u] := h2
  rw [h3]
end
/-- a slice whose elements open, with what each datum is -/
theorem open_slD {H : Type} {enc : TypeId × Value → H} {P : Program} {W : World} {α : Type} {r : Rep α} {okD : α → DataW H → Prop} {t e : TypeId} (ht : P.underlying t = some (.slice e)) (hC : P.cellsOf e = r.size) (h0 : 0 < r.size)
    (hel : ∀ (n : Nat) (cs : List Value) (y : DataW H × List MemPlace), cs.length = r.size → DataW.trod enc P W 0 (fun _ => true) true n e cs = some y → ∃ x, r.R W cs x ∧ okD x y.1)
    {fuel : Nat} {cs : List Value} {x : DataW H × List MemPlace} (h : DataW.trod enc P W 0 (fun _ => true) true fuel t cs = some x) :
    ∃ v xs, cs = [v] ∧ Sl r W v xs ∧ ((x.1 = .nil ∧ xs = []) ∨ ∃ elems spare, x.1 = .slice elems spare ∧ elems.length = xs.length ∧ ∀ (i : Nat) x d, xs[i]? = some x → elems[i]? = some d → okD x d) := by
  rcases Deep.open_slice ht h with ⟨rfl, rfl⟩ | ⟨a, len, cap, m, n, D, Pl, rfl, _, hlc, hcm, hm, rfl, hi⟩
  · exact ⟨_, [], rfl, Sl.nil_ _ _, .inl ⟨rfl, rfl⟩⟩
  · simp only [if_true] at hm
    subst hm
    rw [hC] at hi
    have hx : ∀ i, i < len → ∃ x, okD x (D i) ∧ ∃ cs', r.R W cs' x ∧ ∀ j, j < r.size → W.cell? ((a.add (i * r.size)).add j) = cs'[j]? := fun i hlt => by
      obtain ⟨cs', hc, htr⟩ := hi i (by omega)
      obtain ⟨_, hl, hcell⟩ := World.cells?_some hc
      obtain ⟨x, hR, hok⟩ := hel _ _ _ hl htr
      exact ⟨x, hok, cs', hR, hcell⟩
    have hspot : 0 < len → a.spot = none := fun hp => by
      obtain ⟨x, _, cs', hR, hcell⟩ := hx 0 hp
      refine cells_lit (w := W) (n := r.size) (cs := cs') (fun i hi' => ?_) (r.len hR) h0
      have := hcell i hi'
      simpa [Addr.add] using this
    refine ⟨_, (List.range len).pmap (fun i hi' => Classical.choose (hx i hi')) (fun i hi' => List.mem_range.1 hi'), rfl, ⟨some a, m, by simp, by simpa using hlc, ⟨hcm, fun h => by cases h⟩, fun hp => ?_⟩, .inr ⟨_, _, rfl, by simp, fun i x d hk hd => ?_⟩⟩
    · have hs := hspot (by simpa using hp)
      obtain ⟨b, o, sp⟩ := a
      simp only at hs
      subst hs
      refine ⟨b, o, rfl, fun k x hk => ?_⟩
      rw [List.getElem?_pmap] at hk
      have hk2 : k < len := by
        rcases Nat.lt_or_ge k len with h | h
        · exact h
        · simp [h] at hk
      simp only [List.getElem?_range hk2, Option.pmap_some, Option.some.injEq] at hk
      obtain ⟨_, cs', hR, hcell⟩ := Classical.choose_spec (hx k hk2)
      rw [hk] at hR
      refine ⟨cs', hR, fun j u hu => ?_⟩
      have hj : j < r.size := by rw [← r.len hR]; exact (List.getElem?_eq_some_iff.1 hu).1
      have h1 := hcell j hj
      rw [hu] at h1
      have e1 : ((⟨b, o, none⟩ : Addr).add (k * r.size)).add j = ⟨b, o + k * r.size + j, none⟩ := by
        unfold Addr.add
        by_cases hk0 : k * r.size = 0 <;> by_cases hj0 : j = 0 <;> simp [hk0, hj0]
      rw [e1] at h1
      exact h1
    · rw [List.getElem?_pmap] at hk
      have hk2 : i < len := by
        rcases Nat.lt_or_ge i len with h | h
        · exact h
        · simp [h] at hk
      simp only [List.getElem?_range hk2, Option.pmap_some, Option.some.injEq] at hk
      have h1 := (Classical.choose_spec (hx i hk2)).1
      rw [hk] at h1
      rw [List.getElem?_map, List.getElem?_range hk2, Option.map_some] at hd
      obtain rfl := Option.some.inj hd
      exact h1
end Go.Proofs.Ytgkpplbomciehaa
