/- Expressions of a program, by the program: walked. The memory of a run: what stays, variables, frames, the runner. The memory of the document's machine. Each lemma states its own conditions. -/
import Derived.Test.YtgkpplbomciehaaCdt08
import Derived.Test.YtgkpplbomciehaaCdt04
import Derived.Test.YtgkpplbomciehaaCdt02
namespace Go.Proofs.Ytgkpplbomciehaa
open Go.RowKit
theorem partsP_drop {z : List Int} {args : List PE} {k : Nat} {x : PE} (hx : args[k]? = some x) : partsP z (args.drop k) = orE (x.parts z) (partsP z (args.drop (k + 1))) := by
  obtain ⟨hl, rfl⟩ := List.getElem?_eq_some_iff.1 hx
  rw [List.drop_eq_getElem_cons hl, partsP]
theorem partsP_end {z : List Int} {args : List PE} {k : Nat} (h : args.length ≤ k) : partsP z (args.drop k) = 0 := by rw [List.drop_eq_nil_of_le h, partsP]
set_option maxRecDepth 20000 in
set_option maxHeartbeats 1000000 in
theorem parts_step (z : List Int) (hz : ∀ n ∈ z, 0 ≤ n) (k n : Int) (args : List PE) (IH : ∀ x ∈ args, ∀ (val zv : Value) (W : World), PEV W x val → Sl intR W zv z →
      Calls Try.prog 111 #[val, zv] W fun r w' => r = .returned (.int .i64 (x.parts z)) ∧ Bel W w')
    (val zv : Value) (w : World) (h : PEV w (.mk k n args) val) (hs : Sl intR w zv z) :
    Calls Try.prog 111 #[val, zv] w fun r w' => r = .returned (.int .i64 ((PE.mk k n args).parts z)) ∧ Bel w w' := by
  have HP := Lib.hid (fun W (hb : Bel w W) => part_any z hz (.mk k n args) val zv W (h.keep hb) (hs.keep hb))
  have HS := Lib.hid hs
  obtain ⟨v, rfl, A, c, rfl, hc, hm, hA⟩ := h
  have HI := Lib.hid IH
  have HA := Lib.hid hA
  have HT : Hid (orE (partP z (.mk k n args)) (partsP z args) = (PE.mk k n args).parts z) := Lib.hid (by rw [PE.parts])
  generalize (PE.mk k n args).parts z = T at HT ⊢
  have hlm : args.length ≤ 9223372036854775807 := by have := hm.1; simp only [maxLen] at this; simp only [PE.args] at hc; omega
  simp only [PE.kind, PE.n, PE.args] at HA hc ⊢
  clear hm IH hA hs
  have HB := Lib.hid ((Bel.rfl_ w).al (.cells #[.int .i64 k, .int .i64 n, .slice A args.length c] 47))
  have z2 : (w.alloc (.cells #[.int .i64 k, .int .i64 n, .slice A args.length c] 47)).cell? ⟨w.heap.size, 2, none⟩ = some (.slice A args.length c) := (Blk.new w 47 #[.int .i64 k, .int .i64 n, .slice A args.length c]).cell rfl
  go_enter Try.func111, Try.ntmps111
  go_wp2_with fail
  refine (HP.out _ HB.out).mono ?_
  rintro r w1 ⟨rfl, hb⟩
  have z3 := hb.cell z2
  replace HB := Lib.hid (HB.out.tr hb)
  clear hb z2 HP
  generalize partP z (.mk k n args) = P0 at *
  by_cases h0 : P0 ≠ 0
  · have d0 : (P0 != 0) = true := by simpa using h0
    have HR : Hid (P0 = T) := Lib.hid (by rw [← HT.out, orE, if_neg h0])
    clear h0
    go_wp2
    go_ret
    exact ⟨by rw [HR.out]; rfl, HB.out⟩
  have h00 : P0 = 0 := by omega
  subst h00
  replace HT : Hid (partsP z (args.drop 0) = T) := Lib.hid (by rw [← HT.out]; unfold orE; rw [if_pos rfl]; rfl)
  clear h0
  go_wp2
  go_loopw [18] (fun i wr => ∃ j : Nat, i = .int .i64 j ∧ j ≤ args.length ∧ Hid (partsP z (args.drop j) = T) ∧ Hid (Bel w wr)) (fun i _ => args.length - (intOf i).toNat)
  case atStart => exact ⟨0, rfl, by omega, HT, HB⟩
  case round =>
    obtain ⟨j, rfl, hj, HJ, HW⟩ := hrel
    clear HT HB z3
    by_cases hlt : j < args.length
    · obtain ⟨q, hq⟩ : ∃ e, args[j]? = some e := ⟨_, List.getElem?_eq_getElem hlt⟩
      obtain ⟨b, o, rfl, hA⟩ := HA.out (by omega)
      obtain ⟨B, mm, cc, hs, y0, y1, y2⟩ := peR.cells hA hq
      have y0 := HW.out.cell y0
      have y1 := HW.out.cell y1
      have y2 := HW.out.cell y2
      have HQ := Lib.hid hq; have HSL := Lib.hid (hs.keep HW.out); clear hq hs hA HA
      have HQV : Hid (∀ W, Bel wr W → PEV W q (.agg #[.int .i64 q.kind, .int .i64 q.n, .slice B mm cc])) := Lib.hid fun W hb => ⟨_, rfl, HSL.out.keep hb⟩
      replace HJ : Hid (orE (q.parts z) (partsP z (args.drop (j + 1))) = T) := Lib.hid (by rw [← partsP_drop HQ.out]; exact HJ.out)
      have HC := Lib.hid (fun W (hb : Bel wr W) => HI.out q (List.mem_of_getElem? HQ.out) _ zv W (HQV.out _ hb) (HS.out.keep (HW.out.tr hb)))
      generalize q.kind = qk at *
      generalize q.n = qn at *
      generalize q.parts z = X at *
      go_wp2_with fail
      refine (HC.out _ ((Bel.rfl_ _).al _)).mono ?_
      rintro e w' ⟨rfl, hb⟩
      have HB' := Lib.hid (HW.out.tr (Bel.tr ((Bel.rfl_ wr).al _) hb)); clear hb
      by_cases hx : X = 0
      · subst hx
        replace HJ : Hid (partsP z (args.drop (j + 1)) = T) := Lib.hid (by rw [← HJ.out]; unfold orE; rw [if_pos rfl])
        go_wp2
        go_roundw
        case rel => exact ⟨j + 1, by go_num, by omega, HJ, HB'⟩
        case measure => simp [intOf]; omega
      · have d0 : (X != 0) = true := by simpa using hx
        replace HJ : Hid (X = T) := Lib.hid (by rw [← HJ.out]; unfold orE; rw [if_neg hx])
        clear hx
        go_wp2
        go_ret
        exact ⟨by rw [HJ.out]; rfl, HB'.out⟩
    · replace HJ : Hid (0 = T) := Lib.hid (by rw [← HJ.out, partsP_end (by omega)])
      go_wp2
      go_ret
      exact ⟨by rw [← HJ.out]; rfl, HW.out⟩
theorem parts_any (z : List Int) (hz : ∀ n ∈ z, 0 ≤ n) : ∀ (e : PE) (val zv : Value) (w : World), PEV w e val → Sl intR w zv z →
    Calls Try.prog 111 #[val, zv] w fun r w' => r = .returned (.int .i64 (e.parts z)) ∧ Bel w w' :=
  PE.ind fun k n args ih val zv w h hs => parts_step z hz k n args ih val zv w h hs
set_option maxRecDepth 20000 in
theorem expr_any (z : List Int) (hz : ∀ n ∈ z, 0 ≤ n) (e : PE) (val zv : Value) (w : World) (h : PEV w e val) (hs : Sl intR w zv z) :
    Calls Try.prog 66 #[val, zv] w fun r w' => r = .returned (.int .i64 (e.err z)) ∧ Bel w w' := by
  have HS := Lib.hid (fun W (hb : Bel w W) => sizeP_any e 15 val W (by decide) (by decide) (h.keep hb))
  have HP := Lib.hid (fun W (hb : Bel w W) => parts_any z hz e val zv W (h.keep hb) (hs.keep hb))
  obtain ⟨v, rfl, A, c, rfl, -⟩ := h
  have HG : Hid (e.err z = if 15 < e.size 15 then 2 else e.parts z) := Lib.hid rfl
  have hle := PE.size_le e 15 (by decide)
  generalize e.err z = T at *
  generalize e.parts z = X at *
  generalize e.size 15 = y at *
  generalize e.kind = k at *
  generalize e.n = n at *
  have HB := Lib.hid ((Bel.rfl_ w).al (.cells #[.int .i64 k, .int .i64 n, .slice A e.args.length c] 47))
  have z0 : ∀ i u, (#[Value.int .i64 k, .int .i64 n, .slice A e.args.length c] : Array Value)[i]? = some u → (w.alloc (.cells #[.int .i64 k, .int .i64 n, .slice A e.args.length c] 47)).cell? ⟨w.heap.size, i, none⟩ = some u := fun i u hu => (Blk.new w _ _).cell hu
  go_enter Try.func66, Try.ntmps66
  go_wp2_with fail
  refine (HS.out _ HB.out).mono ?_
  rintro r w1 ⟨rfl, hb⟩
  have q0 := hb.cell (z0 0 _ rfl)
  have q1 := hb.cell (z0 1 _ rfl)
  have q2 := hb.cell (z0 2 _ rfl)
  replace HB := Lib.hid (HB.out.tr hb)
  clear hb z0
  by_cases hy : 15 < y
  · have HR : Hid (T = 2) := Lib.hid (by rw [HG.out, if_pos hy])
    have d0 : decide (y > 15) = true := decide_eq_true hy
    go_wp2
    go_ret
    exact ⟨by rw [HR.out]; rfl, HB.out⟩
  · have HR : Hid (T = X) := Lib.hid (by rw [HG.out, if_neg hy])
    have d0 : decide (y > 15) = false := decide_eq_false hy
    go_wp2_with fail
    refine (HP.out _ HB.out).mono ?_
    rintro r w2 ⟨rfl, hb⟩
    replace HB := Lib.hid (HB.out.tr hb)
    clear hb
    go_wp2
    go_ret
    exact ⟨by rw [HR.out]; rfl, HB.out⟩
abbrev INT : TypeId := 3
abbrev INTS : TypeId := 23
/-- what a run leaves as it was: all below B; below lo, all but blocks of some types -/
structure Kept (ts : List TypeId) (B lo : Nat) (w w' : World) : Prop where
  os : w'.os = w.os
  tape : w'.tape = w.tape
  output : w'.output = w.output
  size : w.heap.size ≤ w'.heap.size
  low : ∀ k, k < B → w'.heap[k]? = w.heap[k]?
  mid : ∀ k c t z, k < lo → t ∉ ts → w.heap[k]? = some (.cells c t z) → w'.heap[k]? = some (.cells c t z)
section
variable {ts : List TypeId} {B lo : Nat} {w w' : World}
theorem Kept.rfl_ (ts : List TypeId) (B lo : Nat) (w : World) : Kept ts B lo w w := ⟨rfl, rfl, rfl, Nat.le_refl _, fun _ _ => rfl, fun _ _ _ _ _ _ h => h⟩
theorem Kept.tr {a b c : World} (h : Kept ts B lo a b) (g : Kept ts B lo b c) : Kept ts B lo a c :=
  ⟨g.os.trans h.os, g.tape.trans h.tape, g.output.trans h.output, Nat.le_trans h.size g.size, fun k hk => (g.low k hk).trans (h.low k hk), fun k c t z hk ht ho => g.mid k c t z hk ht (h.mid k c t z hk ht ho)⟩
theorem Kept.mono {lo' : Nat} (h : Kept ts B lo w w') (hl : lo' ≤ lo) : Kept ts B lo' w w' :=
  ⟨h.os, h.tape, h.output, h.size, h.low, fun k c t z hk => h.mid k c t z (Nat.lt_of_lt_of_le hk hl)⟩
theorem Kept.bel (h : Bel w w') (hB : B ≤ w.heap.size) : Kept ts B lo w w' :=
  ⟨h.os, h.tape, h.output, h.size, fun k hk => h.block k (by omega), fun k c t z _ _ ho => (h.block k (Array.getElem?_eq_some_iff.1 ho).1).trans ho⟩
theorem Kept.set_ty {k : Nat} {t : TypeId} {cs : Array Value} (hb : Blk w k t cs) (hB : B ≤ k) (ht : t ∈ ts) (i : Nat) (u : Value) : Kept ts B lo w (w.setCell ⟨k, i, none⟩ u) :=
  ⟨rfl, rfl, rfl, by simp, fun j hj => heap_setCell_other w ⟨k, i, none⟩ j u (by dsimp only; omega), fun j c t' z _ ht' ho => by
    refine (heap_setCell_other w ⟨k, i, none⟩ j u ?_).trans ho
    dsimp only
    rintro rfl
    unfold Blk at hb
    rw [hb] at ho
    injection ho with ho
    injection ho with _ ho _
    exact ht' (ho ▸ ht)⟩
theorem Kept.grown {t : TypeId} {size : Nat} {v : Value} {n : Nat} {xs : List Value} (ho : w.ownsRow B t size v n xs) (ht : t ∈ ts) (hg : w.grownBy w' v.ownBlock) (hB : B ≤ w.heap.size) : Kept ts B lo w w' := by
  refine ⟨hg.os, hg.tape, hg.output, hg.size, fun k hk => hg.block k (by omega) fun he => ?_, fun k c t' z _ ht' hk => (hg.block k (Array.getElem?_eq_some_iff.1 hk).1 fun he => ?_).trans hk⟩
  · have := (ho.lt k he.symm).1
    omega
  · rcases ho.2 with ⟨rfl, _⟩ | ⟨g', cap, cur, rfl, _, hh, _⟩
    · simp [Value.ownBlock] at he
    · have : k = g' := by simpa [Value.ownBlock] using he
      subst this
      rw [hk] at hh
      injection hh with hh
      injection hh with _ hh _
      exact ht' (hh ▸ ht)
theorem Blk.kept {g : Nat} {t : TypeId} {cs : Array Value} (h : Blk w g t cs) (hk : Kept ts B lo w w') (hg : g < lo) (ht : t ∉ ts) : Blk w' g t cs := hk.mid g _ _ _ hg ht h
theorem own_kept {base size n : Nat} {e : TypeId} {v : Value} {xs : List Value} (ho : w.ownsRow base e size v n xs) (hk : Kept ts B lo w w') (hv : ∀ g, v.ownBlock = some g → g < lo) (he : e ∉ ts) : w'.ownsRow base e size v n xs := by
  refine ⟨ho.1, ?_⟩
  rcases ho.2 with hn | ⟨g, cap, cur, rfl, hbg, hgg, rest⟩
  · exact .inl hn
  · exact .inr ⟨g, cap, cur, rfl, hbg, Blk.kept hgg hk (hv g rfl) he, rest⟩
theorem Blk.ne {g k : Nat} {t e : TypeId} {cs ds : Array Value} (h : Blk w g t cs) (h' : Blk w k e ds) (ht : t ≠ e) : g ≠ k := by
  rintro rfl
  unfold Blk at h h'
  rw [h] at h'
  injection h' with h'
  injection h' with _ h' _
  exact ht h'
theorem Blk.aside {g k : Nat} {t e : TypeId} {cs ds : Array Value} (h : Blk w g t cs) (h' : Blk w k e ds) (ht : t ≠ e) (i : Nat) (u : Value) : Blk (w.setCell ⟨k, i, none⟩ u) g t cs :=
  (heap_setCell_other w ⟨k, i, none⟩ g u (h.ne h' ht)).trans h
theorem own_set {base size n : Nat} {e t : TypeId} {v : Value} {xs : List Value} (ho : w.ownsRow base e size v n xs) {k : Nat} {cs : Array Value} (h' : Blk w k t cs) (ht : e ≠ t) (i : Nat) (u : Value) : (w.setCell ⟨k, i, none⟩ u).ownsRow base e size v n xs := by
  refine ⟨ho.1, ?_⟩
  rcases ho.2 with hn | ⟨g, cap, cur, rfl, hbg, hgg, rest⟩
  · exact .inl hn
  · exact .inr ⟨g, cap, cur, rfl, hbg, Blk.aside hgg h' ht i u, rest⟩
end
section
variable {w : World} {base size n cap g : Nat} {e : TypeId} {xs : List Value}
/-- where a row of the call's own lies -/
theorem own_lies {v : Value} (ho : w.ownsRow base e size v n xs) (hn : 0 < n) : ∃ g cap, v = .slice (some ⟨g, 0, none⟩) n cap ∧ base ≤ g ∧ n ≤ cap ∧ cap ≤ maxLen ∧ (∀ i u, xs[i]? = some u → w.cell? ⟨g, i, none⟩ = some u) ∧ ∃ cur, Blk w g e cur := by
  rcases ho.2 with ⟨_, h⟩ | ⟨g, cap, cur, rfl, hbg, hgg, h1, h2, h3, h4⟩
  · omega
  · refine ⟨g, cap, rfl, hbg, h1, h2, fun i u hu => ?_, cur, hgg⟩
    have hb : Blk w g e cur := hgg
    refine hb.cell ?_
    rw [← h4, List.getElem?_take] at hu
    split at hu
    · simpa using hu
    · cases hu
end
end Go.Proofs.Ytgkpplbomciehaa
