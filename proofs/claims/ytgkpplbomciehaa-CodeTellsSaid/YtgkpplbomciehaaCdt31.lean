/- Programs compiled: walked. Each lemma states its own conditions. -/
import Derived.Test.YtgkpplbomciehaaCdt29
import Derived.Test.YtgkpplbomciehaaCdt30
import Derived.Test.YtgkpplbomciehaaCdt01
import Derived.Test.YtgkpplbomciehaaCdt21
import Derived.Outline
import Derived.Deep.QuietTactic
import Derived.BigQuiet
import Derived.Laws.StructEq
import Derived.WalkLawsBesides
import Derived.WalkSpells
import Derived.Lib.SliceRun
namespace Go.Proofs.Ytgkpplbomciehaa
open Go.RowKit
/-- 'slices.Clone' of numbers: a list of the call's own. -/
theorem cloneInt_any (v : Value) (xs : List Int) (w : World) (h : Sl intR w v xs) (hl : xs.length ≤ 1000000) :
    Calls Try.prog 101 #[v] w fun r w' => ∃ u, r = .returned u ∧ w'.ownsRow w.heap.size 3 1 u xs.length (xs.map (Value.int .i64)) ∧ Bel w w' := by
  obtain ⟨A, c, rfl, hc, hm, hA⟩ := h
  have HA := Lib.hid hA; clear hA
  have HM := Lib.hid hm; clear hm
  have hnil := fun (w : World) (A : Option Addr) (n c : Nat) => Lib.run_eql_slice_nil (P := Try.prog) w 23 3 A n c 0 0 Try.underlying23
  cases A with
  | none =>
    have h0 : xs.length = 0 := by
      rcases Nat.eq_zero_or_pos xs.length with h0 | h0
      · exact h0
      · obtain ⟨_, _, h, _⟩ := HA.out h0; cases h
    obtain rfl : xs = [] := List.eq_nil_of_length_eq_zero h0
    go_enter Try.func101, Try.ntmps101
    go_wp2
    go_ret
    exact ⟨_, rfl, World.ownsRow_nil _ _ _ _, Bel.rfl_ w⟩
  | some ad =>
    have hown0 := World.ownsRow_made (base := w.heap.size) (e := 3) (size := 1) w #[] 0 (Nat.le_refl _) (Nat.zero_le _) rfl
    have hb0 : Bel w (w.alloc (.cells #[] 3)) := (Bel.rfl_ w).al _
    have hcs : 0 < xs.length → ∃ b off, some ad = some ⟨b, off, none⟩ ∧ CellsAt (w.alloc (.cells #[] 3)) b off (xs.map (Value.int .i64)) := fun hp => by
      obtain ⟨b, o, h1, h2⟩ := HA.out hp
      exact ⟨b, o, h1, (ints_cells h2).keep hb0⟩
    have HO := Lib.hid hown0; clear hown0
    have HB := Lib.hid hb0; clear hb0
    have HC := Lib.hid hcs; clear hcs
    go_enter Try.func101, Try.ntmps101
    go_wp2_with (at_builtin; refine wpl_appAll (w.alloc (.cells #[] 3)) rfl (.tmp 5) (.tmp 6) 23 rfl w.heap.size elI _ 0 [] rfl HO.out _ xs.length c (xs.map (Value.int .i64)) rfl (by simp) HM.out.2 HC.out (ints_one xs) (by simp only [maxLen]; omega) (by omega) HB.out.size ?_; intro v' w' hown hg _; have HO1 := Lib.hid hown; have HB1 := Lib.hid (Below.ofGrown HB.out HO.out hg (Nat.le_refl _) HB.out.size); clear hown hg)
    go_ret
    exact ⟨_, rfl, (by simpa using HO1.out), HB1.out⟩
theorem infCD : ∃ i z, Try.prog.info? CDT = some i ∧ i.zero = some z ∧ i.size = 3 ∧ i.bytes = 72 ∧ z.cells.size = 3 := by
  obtain ⟨i, hi, h0, h1, h2⟩ := info_parts (P := Try.prog) (e := CDT) (z := .agg #[.slice none 0 0, .slice none 0 0, .slice none 0 0]) (size := 3) (bytes := 72) (by kernel_rfl)
  exact ⟨i, _, hi, h0, h1, h2, rfl⟩
theorem szCD : (Try.prog.info? CDT).map (·.size) = some 3 := by kernel_rfl
/-- the compiler, with where functions begin and their sizes -/
structure CompD (w0 : World) (q : Nat) (W : World) (L : List Ins) (F : List Int) (Z : List (List Int)) (vi vf vz : Value) (us : List Value) : Prop where
  code : CompI w0 q W L vi vf vz
  fst : W.ownsRow w0.heap.size INT 1 vf F.length (F.map (Value.int .i64))
  szs : W.ownsRow w0.heap.size INTS 1 vz us.length us
  len : us.length = Z.length
  el : ∀ (i : Nat) u z, us[i]? = some u → Z[i]? = some z → W.ownsRow w0.heap.size INT 1 u z.length (z.map (Value.int .i64)) ∧ (u.ownBlock = none ∨ u.ownBlock ≠ vf.ownBlock)
section
variable {w0 W W2 : World} {q : Nat} {L M : List Ins} {F : List Int} {Z : List (List Int)} {vi vi2 vf vz : Value} {us : List Value}
theorem CompD.kept (h : CompD w0 q W L F Z vi vf vz us) (hk : Kept [INS, CPT] w0.heap.size W.heap.size W W2) (hc : CompI w0 q W2 M vi2 vf vz) : CompD w0 q W2 M F Z vi2 vf vz us :=
  ⟨hc, own_kept h.fst hk (fun g hg => (h.fst.lt g hg).2) (by decide), own_kept h.szs hk (fun g hg => (h.szs.lt g hg).2) (by decide), h.len, fun i u z hu hz => ⟨own_kept (h.el i u z hu hz).1 hk (fun g hg => ((h.el i u z hu hz).1.lt g hg).2) (by decide), (h.el i u z hu hz).2⟩⟩
theorem CompD.bel (h : CompD w0 q W L F Z vi vf vz us) (hb : Bel W W2) : CompD w0 q W2 L F Z vi vf vz us := h.kept (Kept.bel hb h.code.low.size) (h.code.keep hb)
theorem codeR_of {lo : Nat} (hi : W.ownsRow lo INS 3 vi L.length (insC L)) (hf : W.ownsRow lo INT 1 vf F.length (F.map (Value.int .i64))) (hz : W.ownsRow lo INTS 1 vz us.length us) (hl : us.length = Z.length)
    (he : ∀ (i : Nat) u z, us[i]? = some u → Z[i]? = some z → W.ownsRow lo INT 1 u z.length (z.map (Value.int .i64))) : CodeR W (.agg #[vi, vf, vz]) ⟨L, F, Z⟩ := by
  refine ⟨vi, vf, vz, rfl, Sl.own (r := insR) hi rfl fun k x hx => ?_, Sl.own_int hf rfl, Sl.own (r := intsR) hz hl fun k z hz => ?_⟩
  · show ((insC L).drop (k * 3)).take 3 = x.cells
    clear hi
    induction L generalizing k with
    | nil => simp at hx
    | cons y ys ih =>
      cases k with
      | zero =>
        obtain rfl : y = x := by simpa using hx
        simp [insC, Ins.cells]
      | succ k =>
        rw [show insC (y :: ys) = y.cells ++ insC ys from rfl, show (k + 1) * 3 = y.cells.length + k * 3 by simp [Ins.cells]; omega, List.drop_append]
        simp
        rw [List.drop_eq_nil_of_le (by omega)]
        simpa using ih k (by simpa using hx)
  · obtain ⟨u, hu⟩ : ∃ u, us[k]? = some u := ⟨_, List.getElem?_eq_getElem (by rw [hl]; exact (List.getElem?_eq_some_iff.1 hz).1)⟩
    refine ⟨u, ?_, Sl.own_int (he k u z hu hz) rfl⟩
    show (us.drop (k * 1)).take 1 = [u]
    obtain ⟨hl2, h2⟩ := List.getElem?_eq_some_iff.1 hu
    rw [Nat.mul_one, List.drop_eq_getElem_cons hl2, h2]
    rfl
/-- a row that lies ahead of all of it may be stored to -/
theorem CompD.elder (h : CompD w0 q W L F Z vi vf vz us) {gr : Nat} (hg : gr < w0.heap.size) (cs : Array Value) : CodeR (W.setRow gr cs) (.agg #[vi, vf, vz]) ⟨L, F, Z⟩ := by
  have hne : ∀ {e : TypeId} {size n : Nat} {v : Value} {xs : List Value}, W.ownsRow w0.heap.size e size v n xs → (W.setRow gr cs).ownsRow w0.heap.size e size v n xs := fun ho => own_by ho fun k c hk hb => hb.row_other (by have := (ho.lt k hk).1; omega) cs
  exact codeR_of (hne h.code.ins) (hne h.fst) (hne h.szs) h.len fun i u z hu hz => hne (h.el i u z hu hz).1
end
theorem compTo_le (ps : List PF) (j n : Nat) (h : j ≤ n) : (compTo ps j).length ≤ (compTo ps n).length := by
  obtain ⟨r, hr⟩ := compTo_pre ps j n h
  rw [hr, List.length_append]
  omega
def firstsC (ps : List PF) (j : Nat) : List Int := (List.range j).map fun i => ((compTo ps i).length : Int)
theorem firstsC_snoc (ps : List PF) (j : Nat) : firstsC ps (j + 1) = firstsC ps j ++ [((compTo ps j).length : Int)] := by unfold firstsC; rw [List.range_succ, List.map_append]; rfl
theorem firstsC_len (ps : List PF) (j : Nat) : (firstsC ps j).length = j := by unfold firstsC; rw [List.length_map, List.length_range]
section
variable {w0 W W2 w6 w7 : World} {q g6 g7 cap6 cap7 : Nat} {L M : List Ins} {F : List Int} {Z : List (List Int)} {vi vi2 vf vz : Value} {us : List Value}
theorem CompD.first (h : CompD w0 q W L F Z vi vf vz us) (n : Int) (ho : w6.ownsRow w0.heap.size INT 1 (.slice (some ⟨g6, 0, none⟩) (F.length + 1) cap6) (F.length + 1) (F.map (Value.int .i64) ++ [.int .i64 n])) (hg : W.grownBy w6 vf.ownBlock) (hw : vf.ownBlock = some g6 ∨ W.heap.size ≤ g6) :
    Blk w6 q CPT #[vi, vf, vz] ∧ CompD w0 q (w6.setCell ⟨q, 1, none⟩ (.slice (some ⟨g6, 0, none⟩) (F.length + 1) cap6)) L (F ++ [n]) Z vi (.slice (some ⟨g6, 0, none⟩) (F.length + 1) cap6) vz us := by
  have hB := h.code.blk.grown hg (Blk.ne_own h.code.blk h.fst (by decide))
  have hlow : Bel w0 w6 := Below.grown h.code.low hg h.code.low.size (fun k hk => (h.fst.lt k hk).1)
  refine ⟨hB, ⟨hlow.setCell (p := ⟨q, 1, none⟩) h.code.lo _, h.code.lo, hB.set_ 1 _, ?_⟩, ?_, ?_, h.len, fun i u z hu hz => ⟨?_, ?_⟩⟩
  · exact own_set (own_by h.code.ins fun k cs _ hb => hb.grown hg (Blk.ne_own hb h.fst (by decide))) hB (by decide) _ _
  · rw [List.length_append, List.map_append]
    exact own_set ho hB (by decide) _ _
  · exact own_set (own_by h.szs fun k cs _ hb => hb.grown hg (Blk.ne_own hb h.fst (by decide))) hB (by decide) _ _
  · exact own_set ((h.el i u z hu hz).1.kept hg (h.el i u z hu hz).2) hB (by decide) _ _
  · rcases h.el i u z hu hz with ⟨h1, h2⟩
    rcases h2 with h2 | h2
    · exact .inl h2
    · refine .inr fun he => ?_
      have he : u.ownBlock = some g6 := he
      rcases hw with hw | hw
      · exact h2 (by rw [he, hw])
      · have := (h1.lt g6 he).2
        omega
theorem CompD.size (h : CompD w0 q W L F Z vi vf vz us) {uc : Value} {z : List Int} (hu : W.ownsRow w0.heap.size INT 1 uc z.length (z.map (Value.int .i64))) (hd : uc.ownBlock = none ∨ uc.ownBlock ≠ vf.ownBlock)
    (ho : w7.ownsRow w0.heap.size INTS 1 (.slice (some ⟨g7, 0, none⟩) (us.length + 1) cap7) (us.length + 1) (us ++ [uc])) (hg : W.grownBy w7 vz.ownBlock) :
    Blk w7 q CPT #[vi, vf, vz] ∧ CompD w0 q (w7.setCell ⟨q, 2, none⟩ (.slice (some ⟨g7, 0, none⟩) (us.length + 1) cap7)) L F (Z ++ [z]) vi vf (.slice (some ⟨g7, 0, none⟩) (us.length + 1) cap7) (us ++ [uc]) := by
  have hB := h.code.blk.grown hg (Blk.ne_own h.code.blk h.szs (by decide))
  have hlow : Bel w0 w7 := Below.grown h.code.low hg h.code.low.size (fun k hk => (h.szs.lt k hk).1)
  have hint : ∀ {v : Value} {m : Nat} {xs : List Value}, W.ownsRow w0.heap.size INT 1 v m xs → (w7.setCell ⟨q, 2, none⟩ (.slice (some ⟨g7, 0, none⟩) (us.length + 1) cap7)).ownsRow w0.heap.size INT 1 v m xs := fun hv => own_set (own_by hv fun k cs _ hb => hb.grown hg (Blk.ne_own hb h.szs (by decide))) hB (by decide) _ _
  refine ⟨hB, ⟨hlow.setCell (p := ⟨q, 2, none⟩) h.code.lo _, h.code.lo, hB.set_ 2 _, ?_⟩, hint h.fst, ?_, by rw [List.length_append, List.length_append, h.len]; rfl, fun i u z2 hu2 hz2 => ?_⟩
  · exact own_set (own_by h.code.ins fun k cs _ hb => hb.grown hg (Blk.ne_own hb h.szs (by decide))) hB (by decide) _ _
  · rw [List.length_append]
    exact own_set ho hB (by decide) _ _
  · by_cases hi : i < us.length
    · rw [List.getElem?_append_left hi] at hu2
      rw [List.getElem?_append_left (by rw [← h.len]; exact hi)] at hz2
      exact ⟨hint (h.el i u z2 hu2 hz2).1, (h.el i u z2 hu2 hz2).2⟩
    · have hi2 : i = us.length := by
        have := (List.getElem?_eq_some_iff.1 hu2).1
        rw [List.length_append, List.length_singleton] at this
        omega
      rw [hi2, List.getElem?_append_right (Nat.le_refl _), Nat.sub_self] at hu2
      rw [hi2, h.len, List.getElem?_append_right (Nat.le_refl _), Nat.sub_self] at hz2
      obtain rfl : uc = u := by simpa using hu2
      obtain rfl : z = z2 := by simpa using hz2
      exact ⟨hint hu, hd⟩
end
theorem CompD.rowed {w0 W : World} {q gr : Nat} {L : List Ins} {F : List Int} {Z : List (List Int)} {vi vf vz : Value} {us : List Value} {z : Array Value} (h : CompD w0 q W L F Z vi vf vz us) (hz : Blk W gr CDT z) (hgr : w0.heap.size ≤ gr) (cs : Array Value) : CompD w0 q (W.setRow gr cs) L F Z vi vf vz us := by
  have hne : ∀ {k t c}, t ≠ CDT → Blk W k t c → Blk (W.setRow gr cs) k t c := fun ht hb => hb.row_other (hb.ne hz ht) cs
  exact ⟨⟨h.code.low.row hgr cs, h.code.lo, hne (by decide) h.code.blk, own_by h.code.ins fun k c _ hb => hne (by decide) hb⟩, own_by h.fst fun k c _ hb => hne (by decide) hb, own_by h.szs fun k c _ hb => hne (by decide) hb, h.len, fun i u z2 hu hz2 => ⟨own_by (h.el i u z2 hu hz2).1 fun k c _ hb => hne (by decide) hb, (h.el i u z2 hu hz2).2⟩⟩
theorem CompD.one3 {w0 W : World} {q : Nat} {L : List Ins} {F : List Int} {Z : List (List Int)} {vi vf vz : Value} {us : List Value} (h : CompD w0 q W L F Z vi vf vz us) : ∀ u ∈ [vi, vf, vz], u.oneCell' = true := by
  obtain ⟨A, a, rfl⟩ := own_shape h.code.ins
  obtain ⟨B, b, rfl⟩ := own_shape h.fst
  obtain ⟨C, c, rfl⟩ := own_shape h.szs
  intro u hu
  simp at hu
  rcases hu with rfl | rfl | rfl <;> rfl
section
variable {ρ : Operand → Value} {o : Oper} {W : World} {x y : Operand} {b f : Nat} {u : Value} {A : Option Addr} {n c : Nat}
theorem rs_isM (ho : o.op = .store 23 x y) (hx : ρ x = .pointer (some ⟨b, f, none⟩)) (hy : ρ y = .slice A n c) (hc : W.cell? ⟨b, f, none⟩ = some u) (hf : W.frozen? ⟨b, f, none⟩ = false) : (execOp ρ o).run Try.prog W = .ok .skip (W.setCell ⟨b, f, none⟩ (.slice A n c)) := by
  simp [execOp, ho, hx, hy, hc, hf, go_sem]
theorem rs_iiM (ho : o.op = .store 24 x y) (hx : ρ x = .pointer (some ⟨b, f, none⟩)) (hy : ρ y = .slice A n c) (hc : W.cell? ⟨b, f, none⟩ = some u) (hf : W.frozen? ⟨b, f, none⟩ = false) : (execOp ρ o).run Try.prog W = .ok .skip (W.setCell ⟨b, f, none⟩ (.slice A n c)) := by
  simp [execOp, ho, hx, hy, hc, hf, go_sem]
end
theorem szFN : (Try.prog.info? FNT).map (·.size) = some 6 := by kernel_rfl
/-- what Raw keeps, function by function -/
def RawI (w W3 : World) (ps : List PF) (q gr gF cF : Nat) (z : Array Value) (W : World) (L : List Ins) (F : List Int) (Z : List (List Int)) : Prop :=
  ∃ vi vf vz us, CompD w q W L F Z vi vf vz us ∧ vf.ownBlock ≠ some gF ∧ Blk W gr CDT z ∧ W.ownsRow W3.heap.size INT 1 (.slice (some ⟨gF, 0, none⟩) ps.length cF) ps.length ((firsts ps ps.length).map (Value.int .i64))
section
variable {w W3 W W2 : World} {ps : List PF} {q gr gF cF : Nat} {z : Array Value} {L M : List Ins} {F : List Int} {Z : List (List Int)}
theorem RawI.kept (h : RawI w W3 ps q gr gF cF z W L F Z) (hk : Kept [INS, CPT] w.heap.size W.heap.size W W2) (hc : ∀ vi vf vz, CompI w q W L vi vf vz → ∃ vi2, CompI w q W2 M vi2 vf vz) : RawI w W3 ps q gr gF cF z W2 M F Z := by
  obtain ⟨vi, vf, vz, us, HD, hgF, HZ, HFI⟩ := h
  obtain ⟨vi2, HC⟩ := hc vi vf vz HD.code
  exact ⟨vi2, vf, vz, us, HD.kept hk HC, hgF, HZ.kept hk HZ.lt (by decide), own_kept HFI hk (fun g hg => (HFI.lt g hg).2) (by decide)⟩
theorem RawI.low (h : RawI w W3 ps q gr gF cF z W L F Z) : Bel w W := by
  obtain ⟨vi, vf, vz, us, HD, -⟩ := h
  exact HD.code.low
theorem RawI.firstAt (h : RawI w W3 ps q gr gF cF z W L F Z) {i : Nat} (hi : i < ps.length) : W.cell? ⟨gF, i, none⟩ = some (.int .i64 (firstC ps i)) := by
  obtain ⟨vi, vf, vz, us, HD, hgF, HZ, HFI⟩ := h
  exact (HFI.cellAt i (by omega)).trans (by rw [List.getElem?_map, firsts_at ps hi]; rfl)
theorem RawI.bel (h : RawI w W3 ps q gr gF cF z W L F Z) (hb : Bel W W2) : RawI w W3 ps q gr gF cF z W2 L F Z :=
  h.kept (Kept.bel hb h.low.size) fun _ _vf _vz hc => ⟨_, hc.keep hb⟩
end
set_option maxRecDepth 20000 in
set_option maxHeartbeats 1000000 in
theorem raw_code (ps : List PF) (hp : Prog ps) (hlen : (compTo ps ps.length).length ≤ 1000000) (vp : Value) (w : World) (hs : Sl pfR w vp ps) :
    Calls Try.prog 53 #[.agg #[vp]] w fun r w' => ∃ q vi vf vz us, r = .returned (.agg #[vi, vf, vz]) ∧ CompD w q w' (compP ps).ins (compP ps).first (compP ps).sizes vi vf vz us := by
  obtain ⟨Ap, cp, rfl, -⟩ := sl_lit hs
  have HB1 : Bel w (w.alloc (.cells #[.slice Ap ps.length cp] PGT)) := (Bel.rfl_ w).al _
  have HP1 := Blk.new w PGT #[.slice Ap ps.length cp]
  have hsix := hp.six
  refine af_enter (c := _) (args := [.agg #[.slice Ap ps.length cp]]) Try.func53 rfl Try.ntmps53 (by kernel_rfl) ?_
  refine ca_seq ?_
  refine ca_region ?_
  refine wa_w (some 1) (.pointer (some ⟨w.heap.size, 0, none⟩)) (w.alloc (.cells #[.slice Ap ps.length cp] PGT)) (by kernel_rfl) ?_
  generalize w.alloc (.cells #[.slice Ap ps.length cp] PGT) = W1 at *
  obtain ⟨Q, hQ⟩ : ∃ n, w.heap.size = n := ⟨_, rfl⟩
  rw [hQ] at HP1
  rw [hQ]
  refine wa_alloc CDT 2 rfl rfl (by kernel_rfl) infCD ?_
  intro z hz
  have HZ1 := Blk.new W1 CDT z
  have HB2 := HB1.al (.cells z CDT)
  have HP2 := HP1.keep ((Bel.rfl_ W1).al (.cells z CDT))
  have hgr : w.heap.size ≤ W1.heap.size := HB1.size
  generalize W1.alloc (.cells z CDT) = W2 at *
  generalize W1.heap.size = gr at *
  refine wa_nil ?_
  refine la_code ?_
  refine ca_seq ?_
  refine ca_region ?_
  refine wa_q (some 8) (.agg #[.slice none 0 0, .slice none 0 0, .slice none 0 0]) (by kernel_rfl) ?_
  refine wa_w (some 9) (.pointer (some ⟨W2.heap.size, 0, none⟩)) (W2.alloc (.cells #[.slice none 0 0, .slice none 0 0, .slice none 0 0] CPT)) (by kernel_rfl) ?_
  have HQ3 := Blk.new W2 CPT #[.slice none 0 0, .slice none 0 0, .slice none 0 0]
  have hb := (Bel.rfl_ W2).al (.cells #[.slice none 0 0, .slice none 0 0, .slice none 0 0] CPT)
  have HB3 := HB2.tr hb
  have HP3 := HP2.keep hb
  have HZ3 := HZ1.keep hb
  have hq3 : w.heap.size ≤ W2.heap.size := HB2.size
  have hne : gr ≠ W2.heap.size := by have := HZ1.lt; omega
  generalize W2.alloc (.cells #[.slice none 0 0, .slice none 0 0, .slice none 0 0] CPT) = W3 at *
  generalize W2.heap.size = q at *
  have HD : CompD w q W3 [] [] [] (.slice none 0 0) (.slice none 0 0) (.slice none 0 0) [] := ⟨⟨HB3, hq3, HQ3, World.ownsRow_nil _ _ _ _⟩, World.ownsRow_nil _ _ _ _, World.ownsRow_nil _ _ _ _, rfl, fun i u z hu _ => by simp at hu⟩
  clear hb
  refine wa_q (some 3) (.pointer (some ⟨q, 0, none⟩)) (by kernel_rfl) ?_
  refine wa_nil ?_
  refine la_code ?_
  refine ca_seq ?_
  refine ca_region ?_
  refine wa_do (some 10) (.agg #[.slice Ap ps.length cp]) (by kernel_rfl) (by kernel_rfl) (rl_pg rfl (by kernel_rfl) (HP3.cell (i := 0) rfl)) ?_
  refine wa_call (some 11) (by kernel_rfl) (by kernel_rfl) 99 #[.agg #[.slice Ap ps.length cp]] (by kernel_rfl) (first_any ps hp _ _ (hs.keep HB3)) ?_
  rintro r W4 ⟨uF, rfl, HFI, HBF⟩
  obtain ⟨gF, cF, rfl, -, -⟩ := own_posC HFI hp.pos
  have HP4 := HP3.keep HBF
  have HI : RawI w W3 ps q gr gF cF z W4 (compTo ps 0) (firstsC ps 0) ((ps.take 0).map PF.sizes) := ⟨_, _, _, _, HD.bel HBF, (fun h => by cases h), HZ3.keep HBF, HFI⟩
  clear HFI HD
  refine ⟨_, rfl, ?_⟩
  refine wa_q (some 4) (.slice (some ⟨gF, 0, none⟩) ps.length cF) (by kernel_rfl) ?_
  refine wa_nil ?_
  refine la_code ?_
  refine ca_seq ?_
  refine ca_region ?_
  refine wa_q (some 12) (.pointer (some ⟨Q, 0, none⟩)) (by kernel_rfl) ?_
  refine wa_do (some 13) (.slice Ap ps.length cp) (by kernel_rfl) (by kernel_rfl) (rl_fs rfl (by kernel_rfl) (HP4.cell (i := 0) rfl)) ?_
  refine wa_q (some 14) (.int .i64 ps.length) (by kernel_rfl) ?_
  refine wa_do (some 15) (.int .i64 ((ps.length : Int) - 1)) (by kernel_rfl) (by kernel_rfl) (rb_subI (k := ps.length) (l := 1) rfl (by kernel_rfl) (by kernel_rfl) (by omega) (by omega) rfl) ?_
  refine wa_q (some 5) (.int .i64 ((ps.length : Int) - 1)) (by kernel_rfl) ?_
  refine wa_nil ?_
  refine la_code ?_
  refine ca_seq ?_
  refine ca_seq ?_
  refine ca_region ?_
  refine wa_q (some 16) (.pointer (some ⟨Q, 0, none⟩)) (by kernel_rfl) ?_
  refine wa_do (some 17) (.slice Ap ps.length cp) (by kernel_rfl) (by kernel_rfl) (rl_fs rfl (by kernel_rfl) (HP4.cell (i := 0) rfl)) ?_
  refine wa_q (some 18) (.int .i64 ps.length) (by kernel_rfl) ?_
  refine wa_q (some 19) (.int .i64 0) (by kernel_rfl) ?_
  refine wa_nil ?_
  refine la_code ?_
  refine ca_block ?_
  refine ca_loop (α := Nat) (fun i V => i ≤ ps.length ∧ RawI w W3 ps q gr gF cF z V (compTo ps i) (firstsC ps i) ((ps.take i).map PF.sizes)) (fun i => [(2, .pointer (some ⟨gr, 0, none⟩)), (3, .pointer (some ⟨q, 0, none⟩)), (4, .slice (some ⟨gF, 0, none⟩) ps.length cF), (5, .int .i64 ((ps.length : Int) - 1)), (17, .slice Ap ps.length cp), (18, .int .i64 ps.length), (19, .int .i64 (i : Int))]) (fun i => ps.length - i) 0 [2, 3, 4, 5, 17, 18, 19] (by kernel_rfl) ⟨Nat.zero_le _, HI⟩ ?_
  clear HI HP4 HZ3 HP3 HP2 HZ1 HP1 HBF
  rintro i WC ⟨hi, HI⟩
  have hil1 := compTo_le ps i ps.length hi
  refine ca_seq ?_
  refine ca_region ?_
  obtain ⟨zc1, hzc1⟩ : ∃ b : Bool, decide (((i : Int) : Int) < ps.length) = b := ⟨_, rfl⟩
  refine wa_do (some 20) (.bool zc1) (by kernel_rfl) (by kernel_rfl) (rb_lssI (k := (i : Int)) (l := ps.length) rfl (by kernel_rfl) (by kernel_rfl) hzc1) ?_
  refine wa_nil ?_
  refine la_code ?_
  refine ca_seq ?_
  cases zc1 with
  | true =>
    have hq : (decide (((i : Int) : Int) < ps.length)) = true := by rw [hzc1]
    simp only [sB] at hq
    have hil : i < ps.length := by omega
    obtain ⟨G, hG⟩ : ∃ G, ps[i]? = some G := ⟨_, List.getElem?_eq_getElem hil⟩
    have hGm := List.mem_of_getElem? hG
    obtain ⟨bp, op, cs, rfl, HCS, hca⟩ := hs.elem hG
    have HCS2 := HCS
    obtain ⟨vsz, vcm, vr, hcse, hsz, hsc, hsr⟩ := HCS2
    obtain ⟨Asz, csz, rfl, -⟩ := sl_lit hsz
    obtain ⟨Acm, ccm, rfl, -⟩ := sl_lit hsc
    have HRR := pe_shut _ hsr
    have hgD : ps.getD i noF = G := getD_of hG
    have hcT : compTo ps (i + 1) = compTo ps i ++ compF ps i (compTo ps i).length G := by rw [compTo, hgD]
    have hil2 := compTo_le ps (i + 1) ps.length (by omega)
    have hfc := firstC_le ps i G hG
    have hmany := hp.many
    obtain ⟨calls, hcalls, herr⟩ := (hp.fns i G hG).cmds
    obtain ⟨C, hC⟩ : ∃ C, compCs G.cmds (firstC ps i) ((compTo ps i).length : Nat) = C := ⟨_, rfl⟩
    have hlenC := hil2
    rw [hcT, compF, hC] at hlenC
    simp only [List.length_append] at hlenC
    have hlenA : (compTo ps i).length + C.length ≤ 1000000 := by omega
    have hsn : (ps.take (i + 1)).map PF.sizes = (ps.take i).map PF.sizes ++ [G.sizes] := by rw [take_snoc hG, List.map_append]; rfl
    refine ca_true (by kernel_rfl) (by kernel_rfl) ?_
    refine ca_skip ?_
    refine la_code ?_
    refine ca_seq ?_
    refine ca_block ?_
    refine ca_seq ?_
    refine ca_region ?_
    refine wa_q (some 21) (.int .i64 (i : Int)) (by kernel_rfl) ?_
    refine wa_do (some 22) (.pointer (some ⟨bp, op + i * 6, none⟩)) (by kernel_rfl) (by kernel_rfl) (run_ix elPF bp op ps.length cp i rfl (by kernel_rfl) (by kernel_rfl) hil) ?_
    refine wa_do (some 23) (.agg cs.toArray) (by kernel_rfl) (by kernel_rfl) (run_loadRow FNT (.tmp 22) rfl elPF bp (op + i * 6) (by kernel_rfl) cs (fun j u hu => Bel.cell HI.low (hca j u hu)) (pfR.len HCS) (by kernel_rfl)) ?_
    refine wa_alloc FNT 7 rfl rfl (by kernel_rfl) elPF.inf ?_
    intro zz hzz
    refine wa_q (some 6) (.int .i64 (i : Int)) (by kernel_rfl) ?_
    refine wa_row FNT (.tmp 7) (.tmp 23) rfl rfl (by kernel_rfl) WC.heap.size cs (by kernel_rfl) (by kernel_rfl) (by kernel_rfl) (by kernel_rfl) (Blk.new WC FNT zz) (by rw [szFN, List.size_toArray]; exact congrArg some (pfR.len HCS).symm) (by rw [hzz, List.size_toArray]; exact (pfR.len HCS).symm) (pfR_one HCS) ?_
    rw [World.setRow_alloc_new]
    have HF := Blk.new WC FNT cs.toArray
    replace HI := HI.bel ((Bel.rfl_ WC).al (.cells cs.toArray FNT))
    generalize WC.alloc (.cells cs.toArray FNT) = W5 at *
    generalize WC.heap.size = fb at *
    subst hcse
    refine wa_nil ?_
    refine la_code ?_
    refine ca_cut (α := Unit) (fun _ V => RawI w W3 ps q gr gF cF z V (compTo ps i) (firstsC ps (i + 1)) ((ps.take i).map PF.sizes) ∧ Blk V fb FNT #[.int .i64 G.params, .slice Asz G.sizes.length csz, .slice Acm G.cmds.length ccm, .int .i64 G.result.kind, .int .i64 G.result.n, vr]) (fun _ => [(2, .pointer (some ⟨gr, 0, none⟩)), (3, .pointer (some ⟨q, 0, none⟩)), (4, .slice (some ⟨gF, 0, none⟩) ps.length cF), (5, .int .i64 ((ps.length : Int) - 1)), (6, .int .i64 (i : Int)), (7, .pointer (some ⟨fb, 0, none⟩)), (17, .slice (some ⟨bp, op, none⟩) ps.length cp), (18, .int .i64 ps.length), (19, .int .i64 (i : Int))]) ?_ ?_
    · skip
      obtain ⟨vi, vf, vz, us, HD, hgF, HZC, HFI⟩ := HI
      refine ca_held (fun _ => True) (by kernel_rfl) (trivial) (pan_then (pan_block (pan_then (pan_then (pan_block (pan_then pan_body)))))) ?_
      replace HZC := HZC.keep (Bel.rfl_ _).dr
      replace HF := HF.keep (Bel.rfl_ _).dr
      replace HFI := (Bel.rfl_ _).dr.own HFI
      replace HD := HD.bel (Bel.rfl_ _).dr
      generalize W5.drew = W6 at *
      refine ra_take 0 (some 24) (.pointer (some ⟨q, 0, none⟩)) rfl (by kernel_rfl) (fun W hW => by kernel_rfl) ?_
      refine ra_take 1 (some 25) (.pointer (some ⟨q, 0, none⟩)) rfl (by kernel_rfl) (fun W hW => by kernel_rfl) ?_
      refine ra_take 2 (some 26) (.pointer (some ⟨q, 0, none⟩)) rfl (by kernel_rfl) (fun W hW => by kernel_rfl) ?_
      refine ra_take 3 (some 27) (.pointer (some ⟨q, 0, none⟩)) rfl (by kernel_rfl) (fun W hW => by kernel_rfl) ?_
      refine ra_take 4 (some 28) (.pointer (some ⟨q, 1, none⟩)) rfl (by kernel_rfl) (fun W hW => by kernel_rfl) ?_
      refine ra_take 6 (some 30) (.pointer (some ⟨q, 0, none⟩)) rfl (by kernel_rfl) (fun W hW => by kernel_rfl) ?_
      refine ra_two 5 7 (by kernel_rfl) ?_ ?_
      · skip
        refine rs_to (some 29) (vf) _ rfl (by kernel_rfl) (rl_is rfl (by kernel_rfl) (HD.code.blk.cell (i := 1) rfl)) (trivial) ?_
        refine ra_call 7 (some 31) rfl (by kernel_rfl) 100 #[.pointer (some ⟨q, 0, none⟩)] (by kernel_rfl) (here_at HD.code rfl) ?_
        rintro r WH ⟨rfl, rfl⟩
        refine ⟨_, rfl, trivial, ?_⟩
        refine ra_one 8 (some 32) (.slice (some ⟨W6.heap.size, 0, none⟩) 1 1) (W6.alloc (.cells #[.int .i64 ((compTo ps i).length : Int)] INT)) rfl (by kernel_rfl) (by kernel_rfl) trivial ?_
        refine ra_app 9 (some 33) W6 (.tmp 29) (.tmp 32) 23 rfl (by kernel_rfl) rfl rfl w.heap.size elI vf (firstsC ps i).length _ (by kernel_rfl) (by kernel_rfl) HD.fst [.int .i64 ((compTo ps i).length : Int)] (by kernel_rfl) (by kernel_rfl) rfl (by simp [Value.oneCell']) (by rw [firstsC_len]; simp only [maxLen]; omega) (by rw [firstsC_len]; omega) HD.code.low.size ?_
        intro g6 cap6 w6 ho6 hg6 hwh
        have HG := HD.first ((compTo ps i).length : Int) ho6 hg6 hwh
        have HZ6 := HZC.grown hg6 (Blk.ne_own HZC HD.fst (by decide))
        have HF6 := HF.grown hg6 (Blk.ne_own HF HD.fst (by decide))
        have HFI6 := HFI.kept hg6 (.inr fun h => hgF h.symm)
        have hg6F : g6 ≠ gF := fun h => by
          rcases hwh with h1 | h1
          · exact hgF (by rw [h1, h])
          · have := (HFI.lt gF rfl).2
            omega
        refine ⟨trivial, ?_⟩
        refine ra_take 10 (some 34) (.pointer (some ⟨q, 0, none⟩)) rfl (by kernel_rfl) (fun W hW => by kernel_rfl) ?_
        refine ra_take 11 (some 35) (.pointer (some ⟨q, 0, none⟩)) rfl (by kernel_rfl) (fun W hW => by kernel_rfl) ?_
        refine ra_take 12 (some 36) (.pointer (some ⟨q, 1, none⟩)) rfl (by kernel_rfl) (fun W hW => by kernel_rfl) ?_
        refine ra_sto 13 none (w6.setCell ⟨q, 1, none⟩ (.slice (some ⟨g6, 0, none⟩) ((firstsC ps i).length + 1) cap6)) rfl (by kernel_rfl) (rs_isM (A := some ⟨g6, 0, none⟩) (n := (firstsC ps i).length + 1) (c := cap6) rfl (by kernel_rfl) (by kernel_rfl) (HG.1.cell (i := 1) rfl) (HG.1.frozen 1)) trivial ?_
        refine ra_done (by kernel_rfl) ?_
        have HIN2 := (show RawI w W3 ps q gr gF cF z _ _ _ _ from ⟨_, _, _, _, HG.2, (fun h => hg6F (by injection h)), HZ6.aside HG.1 (by decide) _ _, own_set HFI6 HG.1 (by decide) _ _⟩)
        rw [← firstsC_snoc] at HIN2
        refine la_meet () [2, 3, 4, 5, 6, 7, 17, 18, 19] (by kernel_rfl) ⟨HIN2, HF6.aside HG.1 (by decide) _ _⟩
      · skip
        refine rs_call (some 31) rfl (by kernel_rfl) 100 #[.pointer (some ⟨q, 0, none⟩)] (by kernel_rfl) (here_at HD.code rfl) ?_
        rintro r WH ⟨rfl, rfl⟩
        refine ⟨_, rfl, trivial, ?_⟩
        refine ra_two 5 8 (by kernel_rfl) ?_ ?_
        · skip
          refine rs_to (some 29) (vf) _ rfl (by kernel_rfl) (rl_is rfl (by kernel_rfl) (HD.code.blk.cell (i := 1) rfl)) (trivial) ?_
          refine ra_one 8 (some 32) (.slice (some ⟨W6.heap.size, 0, none⟩) 1 1) (W6.alloc (.cells #[.int .i64 ((compTo ps i).length : Int)] INT)) rfl (by kernel_rfl) (by kernel_rfl) trivial ?_
          refine ra_app 9 (some 33) W6 (.tmp 29) (.tmp 32) 23 rfl (by kernel_rfl) rfl rfl w.heap.size elI vf (firstsC ps i).length _ (by kernel_rfl) (by kernel_rfl) HD.fst [.int .i64 ((compTo ps i).length : Int)] (by kernel_rfl) (by kernel_rfl) rfl (by simp [Value.oneCell']) (by rw [firstsC_len]; simp only [maxLen]; omega) (by rw [firstsC_len]; omega) HD.code.low.size ?_
          intro g6 cap6 w6 ho6 hg6 hwh
          have HG := HD.first ((compTo ps i).length : Int) ho6 hg6 hwh
          have HZ6 := HZC.grown hg6 (Blk.ne_own HZC HD.fst (by decide))
          have HF6 := HF.grown hg6 (Blk.ne_own HF HD.fst (by decide))
          have HFI6 := HFI.kept hg6 (.inr fun h => hgF h.symm)
          have hg6F : g6 ≠ gF := fun h => by
            rcases hwh with h1 | h1
            · exact hgF (by rw [h1, h])
            · have := (HFI.lt gF rfl).2
              omega
          refine ⟨trivial, ?_⟩
          refine ra_take 10 (some 34) (.pointer (some ⟨q, 0, none⟩)) rfl (by kernel_rfl) (fun W hW => by kernel_rfl) ?_
          refine ra_take 11 (some 35) (.pointer (some ⟨q, 0, none⟩)) rfl (by kernel_rfl) (fun W hW => by kernel_rfl) ?_
          refine ra_take 12 (some 36) (.pointer (some ⟨q, 1, none⟩)) rfl (by kernel_rfl) (fun W hW => by kernel_rfl) ?_
          refine ra_sto 13 none (w6.setCell ⟨q, 1, none⟩ (.slice (some ⟨g6, 0, none⟩) ((firstsC ps i).length + 1) cap6)) rfl (by kernel_rfl) (rs_isM (A := some ⟨g6, 0, none⟩) (n := (firstsC ps i).length + 1) (c := cap6) rfl (by kernel_rfl) (by kernel_rfl) (HG.1.cell (i := 1) rfl) (HG.1.frozen 1)) trivial ?_
          refine ra_done (by kernel_rfl) ?_
          have HIN2 := (show RawI w W3 ps q gr gF cF z _ _ _ _ from ⟨_, _, _, _, HG.2, (fun h => hg6F (by injection h)), HZ6.aside HG.1 (by decide) _ _, own_set HFI6 HG.1 (by decide) _ _⟩)
          rw [← firstsC_snoc] at HIN2
          refine la_meet () [2, 3, 4, 5, 6, 7, 17, 18, 19] (by kernel_rfl) ⟨HIN2, HF6.aside HG.1 (by decide) _ _⟩
        · skip
          refine rs_to (some 32) (.slice (some ⟨W6.heap.size, 0, none⟩) 1 1) (W6.alloc (.cells #[.int .i64 ((compTo ps i).length : Int)] INT)) rfl (by kernel_rfl) (by kernel_rfl) trivial ?_
          refine ra_one 5 (some 29) (vf) _ rfl (by kernel_rfl) (rl_is rfl (by kernel_rfl) ((HD.bel ((Bel.rfl_ _).al _)).code.blk.cell (i := 1) rfl)) (trivial) ?_
          refine ra_app 9 (some 33) W6 (.tmp 29) (.tmp 32) 23 rfl (by kernel_rfl) rfl rfl w.heap.size elI vf (firstsC ps i).length _ (by kernel_rfl) (by kernel_rfl) HD.fst [.int .i64 ((compTo ps i).length : Int)] (by kernel_rfl) (by kernel_rfl) rfl (by simp [Value.oneCell']) (by rw [firstsC_len]; simp only [maxLen]; omega) (by rw [firstsC_len]; omega) HD.code.low.size ?_
          intro g6 cap6 w6 ho6 hg6 hwh
          have HG := HD.first ((compTo ps i).length : Int) ho6 hg6 hwh
          have HZ6 := HZC.grown hg6 (Blk.ne_own HZC HD.fst (by decide))
          have HF6 := HF.grown hg6 (Blk.ne_own HF HD.fst (by decide))
          have HFI6 := HFI.kept hg6 (.inr fun h => hgF h.symm)
          have hg6F : g6 ≠ gF := fun h => by
            rcases hwh with h1 | h1
            · exact hgF (by rw [h1, h])
            · have := (HFI.lt gF rfl).2
              omega
          refine ⟨trivial, ?_⟩
          refine ra_take 10 (some 34) (.pointer (some ⟨q, 0, none⟩)) rfl (by kernel_rfl) (fun W hW => by kernel_rfl) ?_
          refine ra_take 11 (some 35) (.pointer (some ⟨q, 0, none⟩)) rfl (by kernel_rfl) (fun W hW => by kernel_rfl) ?_
          refine ra_take 12 (some 36) (.pointer (some ⟨q, 1, none⟩)) rfl (by kernel_rfl) (fun W hW => by kernel_rfl) ?_
          refine ra_sto 13 none (w6.setCell ⟨q, 1, none⟩ (.slice (some ⟨g6, 0, none⟩) ((firstsC ps i).length + 1) cap6)) rfl (by kernel_rfl) (rs_isM (A := some ⟨g6, 0, none⟩) (n := (firstsC ps i).length + 1) (c := cap6) rfl (by kernel_rfl) (by kernel_rfl) (HG.1.cell (i := 1) rfl) (HG.1.frozen 1)) trivial ?_
          refine ra_done (by kernel_rfl) ?_
          have HIN2 := (show RawI w W3 ps q gr gF cF z _ _ _ _ from ⟨_, _, _, _, HG.2, (fun h => hg6F (by injection h)), HZ6.aside HG.1 (by decide) _ _, own_set HFI6 HG.1 (by decide) _ _⟩)
          rw [← firstsC_snoc] at HIN2
          refine la_meet () [2, 3, 4, 5, 6, 7, 17, 18, 19] (by kernel_rfl) ⟨HIN2, HF6.aside HG.1 (by decide) _ _⟩
    clear HI HF
    rintro - W7 ⟨HI, HF⟩
    refine ca_cut (α := Unit) (fun _ V => RawI w W3 ps q gr gF cF z V (compTo ps i) (firstsC ps (i + 1)) ((ps.take (i + 1)).map PF.sizes) ∧ Blk V fb FNT #[.int .i64 G.params, .slice Asz G.sizes.length csz, .slice Acm G.cmds.length ccm, .int .i64 G.result.kind, .int .i64 G.result.n, vr]) (fun _ => [(2, .pointer (some ⟨gr, 0, none⟩)), (3, .pointer (some ⟨q, 0, none⟩)), (4, .slice (some ⟨gF, 0, none⟩) ps.length cF), (5, .int .i64 ((ps.length : Int) - 1)), (6, .int .i64 (i : Int)), (7, .pointer (some ⟨fb, 0, none⟩)), (17, .slice (some ⟨bp, op, none⟩) ps.length cp), (18, .int .i64 ps.length), (19, .int .i64 (i : Int))]) ?_ ?_
    · skip
      obtain ⟨vi, vf, vz, us, HD, hgF, HZC, HFI⟩ := HI
      have hul : us.length = i := by rw [HD.len, List.length_map, List.length_take]; omega
      refine ca_held (fun V => V.cell? ⟨fb, 1, none⟩ = some (.slice Asz G.sizes.length csz)) (by kernel_rfl) ((HF.keep (Bel.rfl_ _).dr).cell (i := 1) rfl) (pan_then (pan_block (pan_then (pan_then (pan_block (pan_then pan_body)))))) ?_
      replace HZC := HZC.keep (Bel.rfl_ _).dr
      replace HF := HF.keep (Bel.rfl_ _).dr
      replace HFI := (Bel.rfl_ _).dr.own HFI
      replace HD := HD.bel (Bel.rfl_ _).dr
      generalize W7.drew = W8 at *
      refine ra_take 0 (some 37) (.pointer (some ⟨q, 0, none⟩)) rfl (by kernel_rfl) (fun W hW => by kernel_rfl) ?_
      refine ra_take 1 (some 38) (.pointer (some ⟨q, 0, none⟩)) rfl (by kernel_rfl) (fun W hW => by kernel_rfl) ?_
      refine ra_take 2 (some 39) (.pointer (some ⟨q, 0, none⟩)) rfl (by kernel_rfl) (fun W hW => by kernel_rfl) ?_
      refine ra_take 3 (some 40) (.pointer (some ⟨q, 0, none⟩)) rfl (by kernel_rfl) (fun W hW => by kernel_rfl) ?_
      refine ra_take 4 (some 41) (.pointer (some ⟨q, 2, none⟩)) rfl (by kernel_rfl) (fun W hW => by kernel_rfl) ?_
      refine ra_take 6 (some 43) (.pointer (some ⟨fb, 1, none⟩)) rfl (by kernel_rfl) (fun W hW => by kernel_rfl) ?_
      refine ra_take 7 (some 44) (.slice Asz G.sizes.length csz) rfl (by kernel_rfl) (fun W hW => rl_is rfl (by kernel_rfl) hW) ?_
      refine ra_two 5 8 (by kernel_rfl) ?_ ?_
      · skip
        refine rs_to (some 42) (vz) _ rfl (by kernel_rfl) (rl_vvM rfl (by kernel_rfl) (HD.code.blk.cell (i := 2) rfl)) (HF.cell (i := 1) rfl) ?_
        refine ra_call 8 (some 45) rfl (by kernel_rfl) 101 #[.slice Asz G.sizes.length csz] (by kernel_rfl) (cloneInt_any _ _ _ (hsz.keep HD.code.low) (by have := (hp.fns _ _ hG).var6; have := (hp.fns _ _ hG).par3; omega)) ?_
        rintro r W9 ⟨uc, rfl, HU, hb⟩
        obtain ⟨Au, cu, rfl⟩ := own_shape HU
        have hud : (Value.slice Au G.sizes.length cu).ownBlock = none ∨ (Value.slice Au G.sizes.length cu).ownBlock ≠ vf.ownBlock := by
          rcases hh : (Value.slice Au G.sizes.length cu).ownBlock with _ | k
          · exact .inl rfl
          · refine .inr fun h => ?_
            have h1 := (HU.lt k hh).1
            have h2 := (HD.fst.lt k h.symm).2
            omega
        replace HU := own_base HU HD.code.low.size
        replace HD := HD.bel hb
        replace HZC := HZC.keep hb
        replace HF := HF.keep hb
        replace HFI := hb.own HFI
        clear hb
        refine ⟨_, rfl, HF.cell (i := 1) rfl, ?_⟩
        refine ra_one 9 (some 46) (.slice (some ⟨W9.heap.size, 0, none⟩) 1 1) (W9.alloc (.cells #[.slice Au G.sizes.length cu] INTS)) rfl (by kernel_rfl) (by kernel_rfl) ((HF.keep ((Bel.rfl_ W9).al _)).cell (i := 1) rfl) ?_
        refine ra_app 10 (some 47) W9 (.tmp 42) (.tmp 46) 24 rfl (by kernel_rfl) rfl rfl w.heap.size elII vz us.length _ (by kernel_rfl) (by kernel_rfl) HD.szs [.slice Au G.sizes.length cu] (by kernel_rfl) (by kernel_rfl) rfl (by simp [Value.oneCell']) (by simp only [maxLen]; omega) (by omega) HD.code.low.size ?_
        intro g7 cap7 w7 ho7 hg7 _
        have HS := HD.size HU hud ho7 hg7
        have HZ7 := HZC.grown hg7 (Blk.ne_own HZC HD.szs (by decide))
        have HF7 := HF.grown hg7 (Blk.ne_own HF HD.szs (by decide))
        have HFI7 := own_by HFI fun k cs _ hb => hb.grown hg7 (Blk.ne_own hb HD.szs (by decide))
        refine ⟨HF7.cell (i := 1) rfl, ?_⟩
        refine ra_take 11 (some 48) (.pointer (some ⟨q, 0, none⟩)) rfl (by kernel_rfl) (fun W hW => by kernel_rfl) ?_
        refine ra_take 12 (some 49) (.pointer (some ⟨q, 0, none⟩)) rfl (by kernel_rfl) (fun W hW => by kernel_rfl) ?_
        refine ra_take 13 (some 50) (.pointer (some ⟨q, 2, none⟩)) rfl (by kernel_rfl) (fun W hW => by kernel_rfl) ?_
        refine ra_sto 14 none (w7.setCell ⟨q, 2, none⟩ (.slice (some ⟨g7, 0, none⟩) (us.length + 1) cap7)) rfl (by kernel_rfl) (rs_iiM (A := some ⟨g7, 0, none⟩) (n := us.length + 1) (c := cap7) rfl (by kernel_rfl) (by kernel_rfl) (HS.1.cell (i := 2) rfl) (HS.1.frozen 2)) ((HF7.aside HS.1 (by decide) _ _).cell (i := 1) rfl) ?_
        refine ra_done (by kernel_rfl) ?_
        have HIN2 := (show RawI w W3 ps q gr gF cF z _ _ _ _ from ⟨_, _, _, _, HS.2, hgF, HZ7.aside HS.1 (by decide) _ _, own_set HFI7 HS.1 (by decide) _ _⟩)
        rw [← hsn] at HIN2
        refine la_meet () [2, 3, 4, 5, 6, 7, 17, 18, 19] (by kernel_rfl) ⟨HIN2, HF7.aside HS.1 (by decide) _ _⟩
      · skip
        refine rs_call (some 45) rfl (by kernel_rfl) 101 #[.slice Asz G.sizes.length csz] (by kernel_rfl) (cloneInt_any _ _ _ (hsz.keep HD.code.low) (by have := (hp.fns _ _ hG).var6; have := (hp.fns _ _ hG).par3; omega)) ?_
        rintro r W9 ⟨uc, rfl, HU, hb⟩
        obtain ⟨Au, cu, rfl⟩ := own_shape HU
        have hud : (Value.slice Au G.sizes.length cu).ownBlock = none ∨ (Value.slice Au G.sizes.length cu).ownBlock ≠ vf.ownBlock := by
          rcases hh : (Value.slice Au G.sizes.length cu).ownBlock with _ | k
          · exact .inl rfl
          · refine .inr fun h => ?_
            have h1 := (HU.lt k hh).1
            have h2 := (HD.fst.lt k h.symm).2
            omega
        replace HU := own_base HU HD.code.low.size
        replace HD := HD.bel hb
        replace HZC := HZC.keep hb
        replace HF := HF.keep hb
        replace HFI := hb.own HFI
        clear hb
        refine ⟨_, rfl, HF.cell (i := 1) rfl, ?_⟩
        refine ra_two 5 9 (by kernel_rfl) ?_ ?_
        · skip
          refine rs_to (some 42) (vz) _ rfl (by kernel_rfl) (rl_vvM rfl (by kernel_rfl) (HD.code.blk.cell (i := 2) rfl)) (HF.cell (i := 1) rfl) ?_
          refine ra_one 9 (some 46) (.slice (some ⟨W9.heap.size, 0, none⟩) 1 1) (W9.alloc (.cells #[.slice Au G.sizes.length cu] INTS)) rfl (by kernel_rfl) (by kernel_rfl) ((HF.keep ((Bel.rfl_ W9).al _)).cell (i := 1) rfl) ?_
          refine ra_app 10 (some 47) W9 (.tmp 42) (.tmp 46) 24 rfl (by kernel_rfl) rfl rfl w.heap.size elII vz us.length _ (by kernel_rfl) (by kernel_rfl) HD.szs [.slice Au G.sizes.length cu] (by kernel_rfl) (by kernel_rfl) rfl (by simp [Value.oneCell']) (by simp only [maxLen]; omega) (by omega) HD.code.low.size ?_
          intro g7 cap7 w7 ho7 hg7 _
          have HS := HD.size HU hud ho7 hg7
          have HZ7 := HZC.grown hg7 (Blk.ne_own HZC HD.szs (by decide))
          have HF7 := HF.grown hg7 (Blk.ne_own HF HD.szs (by decide))
          have HFI7 := own_by HFI fun k cs _ hb => hb.grown hg7 (Blk.ne_own hb HD.szs (by decide))
          refine ⟨HF7.cell (i := 1) rfl, ?_⟩
          refine ra_take 11 (some 48) (.pointer (some ⟨q, 0, none⟩)) rfl (by kernel_rfl) (fun W hW => by kernel_rfl) ?_
          refine ra_take 12 (some 49) (.pointer (some ⟨q, 0, none⟩)) rfl (by kernel_rfl) (fun W hW => by kernel_rfl) ?_
          refine ra_take 13 (some 50) (.pointer (some ⟨q, 2, none⟩)) rfl (by kernel_rfl) (fun W hW => by kernel_rfl) ?_
          refine ra_sto 14 none (w7.setCell ⟨q, 2, none⟩ (.slice (some ⟨g7, 0, none⟩) (us.length + 1) cap7)) rfl (by kernel_rfl) (rs_iiM (A := some ⟨g7, 0, none⟩) (n := us.length + 1) (c := cap7) rfl (by kernel_rfl) (by kernel_rfl) (HS.1.cell (i := 2) rfl) (HS.1.frozen 2)) ((HF7.aside HS.1 (by decide) _ _).cell (i := 1) rfl) ?_
          refine ra_done (by kernel_rfl) ?_
          have HIN2 := (show RawI w W3 ps q gr gF cF z _ _ _ _ from ⟨_, _, _, _, HS.2, hgF, HZ7.aside HS.1 (by decide) _ _, own_set HFI7 HS.1 (by decide) _ _⟩)
          rw [← hsn] at HIN2
          refine la_meet () [2, 3, 4, 5, 6, 7, 17, 18, 19] (by kernel_rfl) ⟨HIN2, HF7.aside HS.1 (by decide) _ _⟩
        · skip
          refine rs_to (some 46) (.slice (some ⟨W9.heap.size, 0, none⟩) 1 1) (W9.alloc (.cells #[.slice Au G.sizes.length cu] INTS)) rfl (by kernel_rfl) (by kernel_rfl) ((HF.keep ((Bel.rfl_ W9).al _)).cell (i := 1) rfl) ?_
          refine ra_one 5 (some 42) (vz) _ rfl (by kernel_rfl) (rl_vvM rfl (by kernel_rfl) ((HD.bel ((Bel.rfl_ _).al _)).code.blk.cell (i := 2) rfl)) ((HF.keep ((Bel.rfl_ _).al _)).cell (i := 1) rfl) ?_
          refine ra_app 10 (some 47) W9 (.tmp 42) (.tmp 46) 24 rfl (by kernel_rfl) rfl rfl w.heap.size elII vz us.length _ (by kernel_rfl) (by kernel_rfl) HD.szs [.slice Au G.sizes.length cu] (by kernel_rfl) (by kernel_rfl) rfl (by simp [Value.oneCell']) (by simp only [maxLen]; omega) (by omega) HD.code.low.size ?_
          intro g7 cap7 w7 ho7 hg7 _
          have HS := HD.size HU hud ho7 hg7
          have HZ7 := HZC.grown hg7 (Blk.ne_own HZC HD.szs (by decide))
          have HF7 := HF.grown hg7 (Blk.ne_own HF HD.szs (by decide))
          have HFI7 := own_by HFI fun k cs _ hb => hb.grown hg7 (Blk.ne_own hb HD.szs (by decide))
          refine ⟨HF7.cell (i := 1) rfl, ?_⟩
          refine ra_take 11 (some 48) (.pointer (some ⟨q, 0, none⟩)) rfl (by kernel_rfl) (fun W hW => by kernel_rfl) ?_
          refine ra_take 12 (some 49) (.pointer (some ⟨q, 0, none⟩)) rfl (by kernel_rfl) (fun W hW => by kernel_rfl) ?_
          refine ra_take 13 (some 50) (.pointer (some ⟨q, 2, none⟩)) rfl (by kernel_rfl) (fun W hW => by kernel_rfl) ?_
          refine ra_sto 14 none (w7.setCell ⟨q, 2, none⟩ (.slice (some ⟨g7, 0, none⟩) (us.length + 1) cap7)) rfl (by kernel_rfl) (rs_iiM (A := some ⟨g7, 0, none⟩) (n := us.length + 1) (c := cap7) rfl (by kernel_rfl) (by kernel_rfl) (HS.1.cell (i := 2) rfl) (HS.1.frozen 2)) ((HF7.aside HS.1 (by decide) _ _).cell (i := 1) rfl) ?_
          refine ra_done (by kernel_rfl) ?_
          have HIN2 := (show RawI w W3 ps q gr gF cF z _ _ _ _ from ⟨_, _, _, _, HS.2, hgF, HZ7.aside HS.1 (by decide) _ _, own_set HFI7 HS.1 (by decide) _ _⟩)
          rw [← hsn] at HIN2
          refine la_meet () [2, 3, 4, 5, 6, 7, 17, 18, 19] (by kernel_rfl) ⟨HIN2, HF7.aside HS.1 (by decide) _ _⟩
    clear HI HF
    rintro - W7 ⟨HI, HF⟩
    refine ca_seq ?_
    refine ca_tail 7 (by kernel_rfl) (by kernel_rfl) ?_
    replace HF := HF.keep (Bel.rfl_ _).dr
    replace HI := HI.bel (Bel.rfl_ _).dr
    generalize W7.drew = W10 at *
    refine ws_q (some 51) (.pointer (some ⟨q, 0, none⟩)) (by kernel_rfl) ?_
    refine ws_q (some 52) (.pointer (some ⟨fb, 2, none⟩)) (by kernel_rfl) ?_
    refine ws_do (some 53) (.slice Acm G.cmds.length ccm) (by kernel_rfl) (by kernel_rfl) (rl_cs rfl (by kernel_rfl) (HF.cell (i := 2) rfl)) ?_
    refine ws_q (some 54) (.slice (some ⟨gF, 0, none⟩) ps.length cF) (by kernel_rfl) ?_
    refine ws_q (some 55) (.int .i64 (i : Int)) (by kernel_rfl) ?_
    refine ws_do (some 56) (.pointer (some ⟨gF, i, none⟩)) (by kernel_rfl) (by kernel_rfl) (run_ix0i1 elI gF ps.length cF i rfl (by kernel_rfl) (by kernel_rfl) hil) ?_
    refine ws_do (some 57) (.int .i64 (firstC ps i)) (by kernel_rfl) (by kernel_rfl) (rl_int rfl (by kernel_rfl) (HI.firstAt hil)) ?_
    refine ws_tail ?_
    obtain ⟨vi, vf, vz, us, HD, hgF, HZC, HFI⟩ := HI
    refine wa_call (some 58) (by kernel_rfl) (by kernel_rfl) 102 #[.pointer (some ⟨q, 0, none⟩), .slice Acm G.cmds.length ccm, .int .i64 (firstC ps i)] (by kernel_rfl) (all_at (cmds_code (ps.map PF.params) G.sizes calls G.cmds) HD.code hsc herr (hp.fine G hGm) rfl hC (by omega) (by omega) (by omega) hlenA) ?_
    rintro r WD ⟨rfl, ⟨vi2, HC2⟩, hk⟩
    have HI : RawI w W3 ps q gr gF cF z _ _ _ _ := ⟨_, _, _, _, HD.kept hk HC2, hgF, HZC.kept hk HZC.lt (by decide), own_kept HFI hk (fun g hg => (HFI.lt g hg).2) (by decide)⟩
    clear HD hgF HZC HFI
    replace HF := HF.kept hk HF.lt (by decide)
    clear HC2 hk
    refine ⟨_, rfl, ?_⟩
    refine wa_nil ?_
    refine la_code ?_
    refine ca_seq ?_
    refine ca_seq ?_
    refine ca_region ?_
    refine wa_q (some 59) (.int .i64 (i : Int)) (by kernel_rfl) ?_
    refine wa_q (some 60) (.int .i64 ((ps.length : Int) - 1)) (by kernel_rfl) ?_
    obtain ⟨zc2, hzc2⟩ : ∃ b : Bool, (((i : Int) : Int) == ((ps.length : Int) - 1)) = b := ⟨_, rfl⟩
    refine wa_do (some 61) (.bool zc2) (by kernel_rfl) (by kernel_rfl) (rb_eqlI (k := (i : Int)) (l := ((ps.length : Int) - 1)) rfl (by kernel_rfl) (by kernel_rfl) hzc2) ?_
    refine wa_nil ?_
    refine la_code ?_
    cases zc2 with
    | true =>
      have hq61 : ((((i : Int) : Int) == ((ps.length : Int) - 1))) = true := by rw [hzc2]
      simp only [sB] at hq61
      have hlast : compTo ps (i + 1) = compTo ps i ++ (C ++ [Ins.mk 14 0 0]) := by rw [hcT, compF, hC, if_pos (by omega)]
      refine ca_true (by kernel_rfl) (by kernel_rfl) ?_
      refine ca_seq ?_
      refine ca_region ?_
      refine wa_q (some 62) (.pointer (some ⟨q, 0, none⟩)) (by kernel_rfl) ?_
      obtain ⟨vi, vf, vz, us, HD, hgF, HZC, HFI⟩ := HI
      refine wa_call (some 63) (by kernel_rfl) (by kernel_rfl) 103 #[.pointer (some ⟨q, 0, none⟩), .int .i64 14, .int .i64 0, .int .i64 0] (by kernel_rfl) (put_code (Ins.mk 14 0 0) HD.code (by simp only [List.length_append]; omega)) ?_
      rintro r WD ⟨rfl, ⟨vi3, HC2⟩, hk⟩
      have HI : RawI w W3 ps q gr gF cF z _ _ _ _ := ⟨_, _, _, _, HD.kept hk HC2, hgF, HZC.kept hk HZC.lt (by decide), own_kept HFI hk (fun g hg => (HFI.lt g hg).2) (by decide)⟩
      clear HD hgF HZC HFI
      replace HF := HF.kept hk HF.lt (by decide)
      clear HC2 hk
      refine ⟨_, rfl, ?_⟩
      refine wa_nil ?_
      have HIN : RawI w W3 ps q gr gF cF z WD (compTo ps (i + 1)) (firstsC ps (i + 1)) ((ps.take (i + 1)).map PF.sizes) := by rw [hlast]; simpa only [List.append_assoc] using HI
      have hfin : (⟨compTo ps (i + 1), firstsC ps (i + 1), (ps.take (i + 1)).map PF.sizes⟩ : Cd) = compP ps := by rw [show i + 1 = ps.length by omega, List.take_length]; rfl
      clear HI
      have HI := HIN
      refine la_code ?_
      refine ca_exit ?_
      refine la_then_exit ?_
      refine la_block_miss (by kernel_rfl) ?_
      refine la_then_exit ?_
      refine la_then_exit ?_
      refine la_block_hit ?_
      refine la_code ?_
      refine ca_seq ?_
      have HI0 := HI.low
      obtain ⟨vi, vf, vz, us, HD, hgF, HZC, HFI⟩ := HI
      refine ca_region ?_
      refine wa_q (some 71) (.pointer (some ⟨q, 0, none⟩)) (by kernel_rfl) ?_
      refine wa_q (some 72) (.pointer (some ⟨q, 0, none⟩)) (by kernel_rfl) ?_
      refine wa_q (some 73) (.pointer (some ⟨q, 0, none⟩)) (by kernel_rfl) ?_
      refine wa_do (some 74) (.agg #[vi, vf, vz]) (by kernel_rfl) (by kernel_rfl) (rl_cd rfl (by kernel_rfl) (blkRange HD.code.blk 0 rfl)) ?_
      refine wa_row CDT (.tmp 2) (.tmp 74) rfl rfl (by kernel_rfl) gr [vi, vf, vz] (by kernel_rfl) (by kernel_rfl) (by kernel_rfl) (by kernel_rfl) HZC szCD hz HD.one3 ?_
      have HR := HZC.row_same #[vi, vf, vz]
      have HBR := HI0.row hgr #[vi, vf, vz]
      have HCR := HD.rowed HZC hgr #[vi, vf, vz]
      have hfi := congrArg Cd.ins hfin
      have hff := congrArg Cd.first hfin
      have hfz := congrArg Cd.sizes hfin
      dsimp only at hfi hff hfz
      rw [hfi, hff, hfz] at HCR
      generalize World.setRow _ gr _ = W15 at *
      refine wa_nil ?_
      refine la_code ?_
      refine ca_ret ?_
      refine la_retC 2 CDT gr #[vi, vf, vz] _ rfl (by kernel_rfl) HR Try.underlying26 rfl szCD ?_
      exact ⟨_, _, _, _, _, rfl, HCR⟩
    | false =>
      have hq61 : ((((i : Int) : Int) == ((ps.length : Int) - 1))) = false := by rw [hzc2]
      simp only [sB] at hq61
      have hres := PE.err_ok ((hp.fns i G hG).res (by omega))
      have hnext : compTo ps (i + 1) = compTo ps i ++ (C ++ (G.result.comp ++ [Ins.mk 13 0 0])) := by rw [hcT, compF, hC, if_neg (by omega)]
      rw [if_neg (by omega)] at hlenC
      simp only [List.length_append] at hlenC
      have hlenR : (compTo ps i ++ C).length + G.result.comp.length ≤ 1000000 := by rw [List.length_append]; omega
      refine ca_false (by kernel_rfl) (by kernel_rfl) ?_
      refine ca_skip ?_
      refine la_code ?_
      refine ca_seq ?_
      refine ca_region ?_
      refine wa_q (some 64) (.pointer (some ⟨q, 0, none⟩)) (by kernel_rfl) ?_
      refine wa_q (some 65) (.pointer (some ⟨fb, 3, none⟩)) (by kernel_rfl) ?_
      refine wa_do (some 66) (.agg #[.int .i64 G.result.kind, .int .i64 G.result.n, vr]) (by kernel_rfl) (by kernel_rfl) (run_loadRow 47 (.tmp 65) rfl elPE fb 3 (by kernel_rfl) [.int .i64 G.result.kind, .int .i64 G.result.n, vr] (blkRange HF 3 rfl) rfl (by kernel_rfl)) ?_
      obtain ⟨vi, vf, vz, us, HD, hgF, HZC, HFI⟩ := HI
      refine wa_call (some 67) (by kernel_rfl) (by kernel_rfl) 104 #[.pointer (some ⟨q, 0, none⟩), .agg #[.int .i64 G.result.kind, .int .i64 G.result.n, vr]] (by kernel_rfl) (expr_code G.sizes G.result hres w _ q _ _ _ _ _ HD.code HRR hlenR) ?_
      rintro r WD ⟨rfl, ⟨vi4, HC2⟩, hk⟩
      have HI : RawI w W3 ps q gr gF cF z _ _ _ _ := ⟨_, _, _, _, HD.kept hk HC2, hgF, HZC.kept hk HZC.lt (by decide), own_kept HFI hk (fun g hg => (HFI.lt g hg).2) (by decide)⟩
      clear HD hgF HZC HFI
      replace HF := HF.kept hk HF.lt (by decide)
      clear HC2 hk
      refine ⟨_, rfl, ?_⟩
      refine wa_nil ?_
      refine la_code ?_
      refine ca_region ?_
      refine wa_q (some 68) (.pointer (some ⟨q, 0, none⟩)) (by kernel_rfl) ?_
      obtain ⟨vi, vf, vz, us, HD, hgF, HZC, HFI⟩ := HI
      refine wa_call (some 69) (by kernel_rfl) (by kernel_rfl) 103 #[.pointer (some ⟨q, 0, none⟩), .int .i64 13, .int .i64 0, .int .i64 0] (by kernel_rfl) (put_code (Ins.mk 13 0 0) HD.code (by simp only [List.length_append]; omega)) ?_
      rintro r WD ⟨rfl, ⟨vi3, HC2⟩, hk⟩
      have HI : RawI w W3 ps q gr gF cF z _ _ _ _ := ⟨_, _, _, _, HD.kept hk HC2, hgF, HZC.kept hk HZC.lt (by decide), own_kept HFI hk (fun g hg => (HFI.lt g hg).2) (by decide)⟩
      clear HD hgF HZC HFI
      replace HF := HF.kept hk HF.lt (by decide)
      clear HC2 hk
      refine ⟨_, rfl, ?_⟩
      refine wa_nil ?_
      have HIN : RawI w W3 ps q gr gF cF z WD (compTo ps (i + 1)) (firstsC ps (i + 1)) ((ps.take (i + 1)).map PF.sizes) := by rw [hnext]; simpa only [List.append_assoc] using HI
      refine la_block_normal ?_
      refine la_code ?_
      refine ca_region ?_
      refine wa_do (some 70) (.int .i64 ((i : Int) + 1)) (by kernel_rfl) (by kernel_rfl) (rb_add64 (k := (i : Int)) (l := 1) rfl (by kernel_rfl) (by kernel_rfl) (by omega) (by omega) rfl) ?_
      refine wa_q (some 19) (.int .i64 ((i : Int) + 1)) (by kernel_rfl) ?_
      refine wa_nil ?_
      refine la_meet (i + 1) [2, 3, 4, 5, 17, 18, 19] (by kernel_rfl) ⟨⟨by omega, HIN⟩, by omega⟩
  | false =>
    have hq : (decide (((i : Int) : Int) < ps.length)) = false := by rw [hzc1]
    simp only [sB] at hq
    have hE : i = ps.length := by omega
    have hfin : (⟨compTo ps i, firstsC ps i, (ps.take i).map PF.sizes⟩ : Cd) = compP ps := by rw [hE, List.take_length]; rfl
    refine ca_false (by kernel_rfl) (by kernel_rfl) ?_
    refine ca_exit ?_
    refine la_then_exit ?_
    refine la_then_exit ?_
    refine la_block_hit ?_
    refine la_code ?_
    refine ca_seq ?_
    have HI0 := HI.low
    obtain ⟨vi, vf, vz, us, HD, hgF, HZC, HFI⟩ := HI
    refine ca_region ?_
    refine wa_q (some 71) (.pointer (some ⟨q, 0, none⟩)) (by kernel_rfl) ?_
    refine wa_q (some 72) (.pointer (some ⟨q, 0, none⟩)) (by kernel_rfl) ?_
    refine wa_q (some 73) (.pointer (some ⟨q, 0, none⟩)) (by kernel_rfl) ?_
    refine wa_do (some 74) (.agg #[vi, vf, vz]) (by kernel_rfl) (by kernel_rfl) (rl_cd rfl (by kernel_rfl) (blkRange HD.code.blk 0 rfl)) ?_
    refine wa_row CDT (.tmp 2) (.tmp 74) rfl rfl (by kernel_rfl) gr [vi, vf, vz] (by kernel_rfl) (by kernel_rfl) (by kernel_rfl) (by kernel_rfl) HZC szCD hz HD.one3 ?_
    have HR := HZC.row_same #[vi, vf, vz]
    have HBR := HI0.row hgr #[vi, vf, vz]
    have HCR := HD.rowed HZC hgr #[vi, vf, vz]
    have hfi := congrArg Cd.ins hfin
    have hff := congrArg Cd.first hfin
    have hfz := congrArg Cd.sizes hfin
    dsimp only at hfi hff hfz
    rw [hfi, hff, hfz] at HCR
    generalize World.setRow _ gr _ = W15 at *
    refine wa_nil ?_
    refine la_code ?_
    refine ca_ret ?_
    refine la_retC 2 CDT gr #[vi, vf, vz] _ rfl (by kernel_rfl) HR Try.underlying26 rfl szCD ?_
    exact ⟨_, _, _, _, _, rfl, HCR⟩
end Go.Proofs.Ytgkpplbomciehaa
