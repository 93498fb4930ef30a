/- What a variable's history says of the frames that there are: a plain law. Each lemma states its own conditions. -/
import Derived.Test.YtgkpplbomciehaaShi45
namespace Go.Proofs.Ytgkpplbomciehaa
open Go.RowKit
/-- a value is put where it was written -/
def putH (c : List Int) (x : Hv) : List Int := c.set x.index.toNat x.value
theorem putH_len : ∀ (h : List Hv) (c : List Int), (h.foldl putH c).length = c.length
  | [], _ => rfl
  | x :: h, c => by rw [List.foldl_cons, putH_len h]; unfold putH; rw [List.length_set]
theorem zeroV_at {z : List Int} {j : Nat} (hj : j < z.length) (hz : ∀ n ∈ z, 0 ≤ n ∧ n ≤ 8) : ∃ n, (zeroV z)[j]? = some (List.replicate n 0) ∧ n ≤ 8 := by
  unfold zeroV
  rw [List.getElem?_map, List.getElem?_eq_getElem hj]
  refine ⟨_, rfl, ?_⟩
  have := hz _ (List.getElem_mem hj)
  split <;> omega
structure HInv (ps : List PF) (l : List Ev) (fn v : Int) (j : Nat) (s : Rp) : Prop where
  fr : ∀ f ∈ s.frs, 0 ≤ f.num ∧ s.fns[f.num.toNat]? = some f.fn
  nd : (s.frs.map Fm.num).Nodup
  hv : ∀ f ∈ s.frs, f.fn = fn → ∃ n : Nat, f.vars[v.toNat]? = some (((histTo ps l fn v j).filter (fun x => x.frame == f.num)).foldl putH (List.replicate n 0)) ∧ n ≤ 8 ∧ ∀ x ∈ histTo ps l fn v j, x.frame = f.num → 0 ≤ x.index ∧ x.index < n
  tm : ∀ x ∈ histTo ps l fn v j, x.time < j ∧ 0 ≤ x.frame ∧ x.frame < s.fns.length
section
variable {ps : List PF} {l : List Ev} {fn v : Int}
theorem HInv.start (hv0 : 0 ≤ v) (hv1 : v < (ps.getD fn.toNat noF).sizes.length) (hz : ∀ n ∈ (ps.getD fn.toNat noF).sizes, 0 ≤ n ∧ n ≤ 8) (hpos : 0 < ps.length) : HInv ps l fn v 0 (Rp.start ps) := by
  refine ⟨fun f hf => ?_, by simp [Rp.start], fun f hf he => ?_, fun x hx => by simp [histTo] at hx⟩
  · obtain rfl : f = _ := by simpa [Rp.start] using hf
    exact ⟨Int.le_refl _, rfl⟩
  · obtain rfl : f = _ := by simpa [Rp.start] using hf
    dsimp only at he
    subst he
    rw [show ((ps.length : Int) - 1).toNat = ps.length - 1 by omega] at hv1 hz
    obtain ⟨n, hn, hn8⟩ := zeroV_at (z := (ps.getD (ps.length - 1) noF).sizes) (j := v.toNat) (by omega) hz
    exact ⟨n, hn, hn8, fun x hx => by simp [histTo] at hx⟩
theorem HInv.step {j : Nat} {s : Rp} {e : Ev} (hv0 : 0 ≤ v) (hv1 : v < (ps.getD fn.toNat noF).sizes.length) (hz : ∀ n ∈ (ps.getD fn.toNat noF).sizes, 0 ≤ n ∧ n ≤ 8) (he : l[j]? = some e) (hs : s = Rp.evs ps (l.take j) (Rp.start ps)) (hf : Fit ps s e) (h : HInv ps l fn v j s) : HInv ps l fn v (j + 1) (s.ev ps e) := by
  have hsn := evs_snoc he (ps := ps) (Rp.start ps)
  rw [← hs] at hsn
  have hh := histTo_snoc (ps := ps) (fn := fn) (v := v) he
  obtain ⟨F5, F6, F2, F0⟩ := hf
  obtain ⟨h1, h2, h3, h4⟩ := h
  by_cases k2 : e.kind = 2
  · obtain ⟨f, L, hl, hn, v0, hv, i0, i1⟩ := F2 k2
    have hse : s.ev ps e = ⟨s.frs.dropLast ++ [{ f with vars := setC f.vars e.var e.index e.value }], s.fns⟩ := by
      unfold Rp.ev
      rw [if_neg (by omega), if_neg (by omega), if_pos k2, hl]
    obtain ⟨ys, hys⟩ : ∃ ys, s.frs = ys ++ [f] := by
      rw [List.getLast?_eq_some_iff] at hl
      exact hl
    have hd : s.frs.dropLast = ys := by rw [hys, List.dropLast_concat]
    rw [hd] at hse
    have hfm : f ∈ s.frs := by rw [hys]; simp
    have hfn := (h1 f hfm).2
    have hne : ∀ g ∈ ys, g.num ≠ f.num := by
      rw [hys, List.map_append, List.nodup_append] at h2
      intro g hg hgn
      exact h2.2.2 g.num (List.mem_map_of_mem hg) f.num (by simp) hgn
    have hat : histAt ps l fn v j e = if e.var = v ∧ f.fn = fn then [⟨j, e.frame, e.index, e.value⟩] else [] := by
      unfold histAt
      rw [hsn, hse]
      dsimp only
      rw [← hn, hfn]
      simp only [k2, true_and, Option.some.injEq]
    have hat2 : ∀ x ∈ histAt ps l fn v j e, x = ⟨j, e.frame, e.index, e.value⟩ := fun x hx => by
      rw [hat] at hx
      split at hx
      · simpa using hx
      · simp at hx
    have hmem : ∀ g ∈ (s.ev ps e).frs, g ∈ ys ∨ g = { f with vars := setC f.vars e.var e.index e.value } := fun g hg => by
      rw [hse] at hg
      simpa using hg
    have hfns : (s.ev ps e).fns = s.fns := by rw [hse]
    refine ⟨fun g hg => ?_, ?_, fun g hg hgf => ?_, fun x hx => ?_⟩
    · rw [hfns]
      rcases hmem g hg with hg | rfl
      · exact h1 g (by rw [hys]; simp [hg])
      · exact h1 f hfm
    · rw [hse]
      rw [hys] at h2
      simpa using h2
    · rcases hmem g hg with hg | rfl
      · obtain ⟨n, h5, h8, h6⟩ := h3 g (by rw [hys]; simp [hg]) hgf
        have h7 : ∀ x ∈ histAt ps l fn v j e, x.frame ≠ g.num := fun x hx hxg => by
          rw [hat2 x hx] at hxg
          exact hne g hg (by rw [hn]; exact hxg.symm)
        refine ⟨n, ?_, h8, fun x hx hxg => ?_⟩
        · rw [hh, List.filter_append, (List.filter_eq_nil_iff (l := histAt ps l fn v j e)).2 (fun x hx => by have := h7 x hx; simpa using this), List.append_nil]
          exact h5
        · rw [hh] at hx
          rcases List.mem_append.1 hx with hx | hx
          · exact h6 x hx hxg
          · exact absurd hxg (h7 x hx)
      · dsimp only at hgf ⊢
        obtain ⟨n, h5, h8, h6⟩ := h3 f hfm hgf
        by_cases hev : e.var = v
        · rw [if_pos ⟨hev, hgf⟩] at hat
          subst hev
          rw [hv] at h5
          have h5 := Option.some.inj h5
          have hLn : L.length = n := by rw [h5, putH_len, List.length_replicate]
          refine ⟨n, ?_, h8, fun x hx hxg => ?_⟩
          · rw [hh, hat, List.filter_append, List.filter_cons_of_pos (by simp [hn]), List.filter_nil, List.foldl_append, ← h5]
            unfold setC
            rw [getD_of hv, List.getElem?_set_self (List.getElem?_eq_some_iff.1 hv).1]
            rfl
          · rw [hh, hat] at hx
            rcases List.mem_append.1 hx with hx | hx
            · exact h6 x hx hxg
            · obtain rfl : x = _ := by simpa using hx
              dsimp only
              omega
        · rw [if_neg (fun h => hev h.1)] at hat
          rw [hh, hat, List.append_nil]
          refine ⟨n, ?_, h8, h6⟩
          unfold setC
          rw [List.getElem?_set_ne (by omega)]
          exact h5
    · rw [hh] at hx
      rw [hfns]
      rcases List.mem_append.1 hx with hx | hx
      · have := h4 x hx
        omega
      · rw [hat2 x hx]
        dsimp only
        omega
  have hat : histAt ps l fn v j e = [] := by unfold histAt; rw [if_neg (fun h => k2 h.1)]
  rw [hat, List.append_nil] at hh
  by_cases k5 : e.kind = 5
  · obtain ⟨hnum, v0, v1, -⟩ := F5 k5
    have hse : s.ev ps e = ⟨s.frs ++ [⟨e.value, e.var, zeroV (ps.getD e.var.toNat noF).sizes⟩], s.fns ++ [e.var]⟩ := by unfold Rp.ev; rw [if_pos k5]
    have hlt : ∀ g ∈ s.frs, g.num.toNat < s.fns.length := fun g hg => (List.getElem?_eq_some_iff.1 (h1 g hg).2).1
    rw [hse]
    refine ⟨fun g hg => ?_, ?_, fun g hg hgf => ?_, fun x hx => ?_⟩
    · rcases List.mem_append.1 hg with hg | hg
      · refine ⟨(h1 g hg).1, ?_⟩
        dsimp only
        rw [List.getElem?_append_left (hlt g hg)]
        exact (h1 g hg).2
      · obtain rfl : g = _ := by simpa using hg
        dsimp only
        refine ⟨by omega, ?_⟩
        rw [hnum, show ((s.fns.length : Nat) : Int).toNat = s.fns.length by omega]
        simp
    · rw [List.map_append, List.nodup_append]
      refine ⟨h2, by simp, fun a ha b hb => ?_⟩
      obtain ⟨g, hg, rfl⟩ := List.mem_map.1 ha
      obtain rfl : b = e.value := by simpa using hb
      have := hlt g hg
      have := (h1 g hg).1
      omega
    · rw [hh]
      rcases List.mem_append.1 hg with hg | hg
      · exact h3 g hg hgf
      · obtain rfl : g = _ := by simpa using hg
        dsimp only at hgf ⊢
        subst hgf
        obtain ⟨n, hn, h8⟩ := zeroV_at (z := (ps.getD e.var.toNat noF).sizes) (j := v.toNat) (by omega) hz
        have h7 : ∀ x ∈ histTo ps l e.var v j, x.frame ≠ e.value := fun x hx hxe => by have := h4 x hx; omega
        refine ⟨n, ?_, h8, fun x hx hxg => absurd hxg (h7 x hx)⟩
        rw [List.filter_eq_nil_iff.2 (fun x hx => by have := h7 x hx; simpa using this)]
        exact hn
    · rw [hh] at hx
      have := h4 x hx
      dsimp only
      rw [List.length_append]
      simp only [List.length_singleton]
      omega
  have hsub : ∃ fs, s.ev ps e = ⟨fs, s.fns⟩ ∧ fs.Sublist s.frs := by
    by_cases k6 : e.kind = 6
    · exact ⟨_, by unfold Rp.ev; rw [if_neg k5, if_pos k6], List.dropLast_sublist _⟩
    · exact ⟨s.frs, by unfold Rp.ev; rw [if_neg k5, if_neg k6, if_neg k2], List.Sublist.refl _⟩
  obtain ⟨fs, hse, hfs⟩ := hsub
  rw [hse]
  refine ⟨fun g hg => h1 g (hfs.subset hg), (hfs.map Fm.num).nodup h2, fun g hg hgf => ?_, fun x hx => ?_⟩
  · rw [hh]
    exact h3 g (hfs.subset hg) hgf
  · rw [hh] at hx
    have := h4 x hx
    dsimp only
    omega
theorem HInv.all (hv0 : 0 ≤ v) (hv1 : v < (ps.getD fn.toNat noF).sizes.length) (hz : ∀ n ∈ (ps.getD fn.toNat noF).sizes, 0 ≤ n ∧ n ≤ 8) (hpos : 0 < ps.length) (hf : Fits_ ps l (Rp.start ps)) : ∀ j, j ≤ l.length → HInv ps l fn v j (Rp.evs ps (l.take j) (Rp.start ps))
  | 0, _ => HInv.start hv0 hv1 hz hpos
  | j + 1, hj => by
    obtain ⟨e, he⟩ : ∃ e, l[j]? = some e := ⟨_, List.getElem?_eq_getElem (by omega)⟩
    rw [evs_snoc he]
    exact HInv.step hv0 hv1 hz he rfl (fits_at hf he) (HInv.all hv0 hv1 hz hpos hf j (by omega))
/-- what there is of a history ahead of a time -/
theorem histTo_cut {T : Nat} : ∀ {j : Nat}, T ≤ j → ∃ r, histTo ps l fn v j = histTo ps l fn v T ++ r ∧ ∀ x ∈ r, (T : Int) ≤ x.time
  | 0, hT => by obtain rfl : T = 0 := by omega
                exact ⟨[], by simp, fun x hx => by simp at hx⟩
  | j + 1, hT => by
    by_cases h : T = j + 1
    · subst h
      exact ⟨[], by simp, fun x hx => by simp at hx⟩
    obtain ⟨r, h1, h2⟩ := histTo_cut (T := T) (j := j) (by omega)
    rw [histTo, h1]
    refine ⟨r ++ _, by rw [List.append_assoc], fun x hx => ?_⟩
    rcases List.mem_append.1 hx with hx | hx
    · exact h2 x hx
    · cases hl : l[j]? with
      | none => rw [hl] at hx; simp at hx
      | some e =>
        rw [hl] at hx
        dsimp only at hx
        unfold histAt at hx
        split at hx
        · obtain rfl : x = _ := by simpa using hx
          dsimp only
          omega
        · simp at hx
end
/-- what a history says of frames -/
def HOk (fs : List Fm) (h : List Hv) (fn v T : Int) : Prop :=
  ∀ f ∈ fs, f.fn = fn → ∃ L, f.vars[v.toNat]? = some L ∧ L.length ≤ 8 ∧ (∀ x ∈ h, x.frame = f.num → x.time < T → 0 ≤ x.index ∧ x.index < L.length) ∧ (h.filter (fun x => x.frame == f.num && decide (x.time < T))).foldl putH (List.replicate L.length 0) = L
theorem hist_ok {ps : List PF} {l : List Ev} {fn v T : Int} (ha : atE ps l T = 0) (hh : histE ps l fn v = 0) : HOk (frsAt ps l T) (histTo ps l fn v l.length) fn v T := by
  obtain ⟨hs, t0, t1⟩ := atE_ok ha
  obtain ⟨hp, hr, -⟩ := stateE_ok hs
  obtain ⟨-, f0, f1, v0, v1⟩ := histE_ok hh
  obtain ⟨n, rfl⟩ : ∃ n : Nat, T = n := ⟨T.toNat, by omega⟩
  have hI := HInv.all v0 v1 (hp.sizes _ (List.mem_of_getElem? (Prog.get f0 f1))).1 hp.pos (RightP.fits hp hr) n (by omega)
  obtain ⟨r, hr1, hr2⟩ := histTo_cut (ps := ps) (l := l) (fn := fn) (v := v) (T := n) (j := l.length) (by omega)
  intro f hf hfn
  unfold frsAt at hf
  rw [show (n : Int).toNat = n by omega] at hf
  obtain ⟨m, h1, h8, h2⟩ := hI.hv f hf hfn
  refine ⟨_, h1, by rw [putH_len, List.length_replicate]; exact h8, fun x hx hxf hxt => ?_, ?_⟩
  · rw [putH_len, List.length_replicate]
    rw [hr1] at hx
    rcases List.mem_append.1 hx with hx | hx
    · exact h2 x hx hxf
    · have := hr2 x hx
      omega
  · rw [putH_len, List.length_replicate, hr1, List.filter_append, (List.filter_eq_nil_iff (l := r)).2 (fun x hx => by
      have := hr2 x hx
      simp only [Bool.and_eq_true, decide_eq_true_eq, not_and]
      intro _
      omega), List.append_nil]
    congr 1
    refine List.filter_congr fun x hx => ?_
    have := (hI.tm x hx).1
    rw [decide_eq_true this, Bool.and_true]
end Go.Proofs.Ytgkpplbomciehaa
