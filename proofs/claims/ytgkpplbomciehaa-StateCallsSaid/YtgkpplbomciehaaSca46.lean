/- Whether two histories, or two lists of calls, are one: the references' loops hand back just that. What must be in any case of states: walked. Each lemma states its own conditions. -/
import Derived.Test.YtgkpplbomciehaaSca45
import Derived.Test.YtgkpplbomciehaaSca37
namespace Go.Proofs.Ytgkpplbomciehaa
open Go.RowKit
def Hv.val (x : Hv) : Value := .agg x.cells.toArray
theorem stoodVl : Try.prog.stoodInHeld 90 = false := by kernel_rfl
theorem eqgVl : Try.prog.eqGuardType Try.prog.depth 90 = false := by kernel_rfl
theorem Vl_eq_iff (e f : Hv) : decide (e = f) = (e.time == f.time && (e.frame == f.frame && (e.index == f.index && (e.value == f.value)))) := by
  cases e; cases f; rw [Bool.eq_iff_iff]; simp
theorem run_eq_Vl (e f : Hv) (w : World) : (Op.equalIn 10000 90 e.val f.val).run Try.prog w = .ok (decide (e = f)) w := by
  rw [Vl_eq_iff]
  unfold Hv.val Hv.cells
  rw [show (10000 : Nat) = 9999 + 1 from rfl, run_equalIn_agg _ _ _ _ _ (by simp [go_sem]) stoodVl]
  cases h0 : e.time == f.time
  · simp [go_sem, h0]
  cases h1 : e.frame == f.frame
  · simp [go_sem, h0, h1]
  cases h2 : e.index == f.index
  · simp [go_sem, h0, h1, h2]
  cases h3 : e.value == f.value
  · simp [go_sem, h0, h1, h2, h3]
  · simp [go_sem, h0, h1, h2, h3]
theorem neq_Vl (e f : Hv) (w : World) : (binOp .neq 90 e.val f.val).run Try.prog w = .ok (.bool (!decide (e = f))) w := by
  have h := run_eq_Vl e f w
  unfold Hv.val Hv.cells at *
  rw [run_neq_struct, h]
  rfl
theorem eqg_Vl (op : BinOp) (e f : Hv) (x y : Operand) (w : World) : (eqGuard op 90 x y e.val f.val).run Try.prog w = .ok () w :=
  run_eqGuard_agg w _ _ _ _ _ _ eqgVl
theorem Vl_cells {w : World} {b o : Nat} {xs : List Hv} (h : ∀ k x, xs[k]? = some x → vlR.At w b (o + k * 4) x) {k : Nat} {x : Hv} (hx : xs[k]? = some x) : w.cell? ⟨b, o + k * 4, none⟩ = some (.int .i64 x.time) ∧ w.cell? ⟨b, o + k * 4 + 1, none⟩ = some (.int .i64 x.frame) ∧ w.cell? ⟨b, o + k * 4 + 2, none⟩ = some (.int .i64 x.index) ∧ w.cell? ⟨b, o + k * 4 + 3, none⟩ = some (.int .i64 x.value) := by
  obtain ⟨cs, hcs, hc⟩ := h k x hx
  obtain rfl : cs = x.cells := hcs
  exact ⟨hc 0 _ rfl, hc 1 _ rfl, hc 2 _ rfl, hc 3 _ rfl⟩
/-- 'hindsightref.SameValues' tells whether two of them are one. -/
theorem sameVl_any (v u : Value) (xs ys : List Hv) (w : World) (hx : Sl vlR w v xs) (hy : Sl vlR w u ys) (hlx : xs.length ≤ 9223372036854775807) (_hly : ys.length ≤ 9223372036854775807) :
    Calls Try.prog 43 #[v, u] w fun r w' => r = .returned (.bool (decide (xs = ys))) ∧ Bel w w' := by
  obtain ⟨A, c, rfl, hc, hm, hA⟩ := hx
  obtain ⟨B, d, rfl, hd, hn, hB⟩ := hy
  have HA := Lib.hid hA; clear hA
  have HB := Lib.hid hB; clear hB
  by_cases hl : xs.length = ys.length
  · have hlen : ((xs.length : Int) != (ys.length : Int)) = false := by rw [hl]; simp
    have hle : xs.length ≤ ys.length := by omega
    have hge : ys.length ≤ xs.length := by omega
    have HL := Lib.hid hl; clear hl
    go_enter Try.func43, Try.ntmps43
    go_wp2
    go_loopw [5] (fun i wr => ∃ k : Nat, k ≤ xs.length ∧ i = .int .i64 k ∧ Hid (xs.take k = ys.take k) ∧ ∃ n, wr = w.drewN n) (fun i _ => xs.length - (intOf i).toNat)
    case atStart => exact ⟨0, by omega, rfl, rfl, 0, rfl⟩
    case round =>
      obtain ⟨k, hk, rfl, ht, n, rfl⟩ := hrel
      by_cases hlt : k < xs.length
      · have hlt' : k < ys.length := by omega
        obtain ⟨e, he⟩ : ∃ e, xs[k]? = some e := ⟨_, List.getElem?_eq_getElem hlt⟩
        obtain ⟨f, hf⟩ : ∃ e, ys[k]? = some e := ⟨_, List.getElem?_eq_getElem hlt'⟩
        obtain ⟨ab, ao, rfl, hA⟩ := HA.out (by omega)
        obtain ⟨bb, bo, rfl, hB⟩ := HB.out (by omega)
        obtain ⟨x0, x1, x2, x3⟩ := Vl_cells hA he
        obtain ⟨y0, y1, y2, y3⟩ := Vl_cells hB hf
        clear hA hB HA HB
        have HE := Lib.hid he; clear he
        have HF := Lib.hid hf; clear hf
        have ne := neq_Vl e f
        have eg := eqg_Vl .neq e f
        unfold Hv.val Hv.cells at ne eg
        by_cases hef : e = f
        · have hdec : decide (e = f) = true := by simpa using hef
          have HEF := Lib.hid hef; clear hef
          go_wp2
          go_quiet (fail)
          go_wp2
          go_roundw
          case rel => exact ⟨k + 1, by omega, by go_num, takes_eq_succ HE.out HF.out ht.out HEF.out, _, rfl⟩
          case measure => simp [intOf]; omega
        · have hdec : decide (e = f) = false := by simpa using hef
          have HEF := Lib.hid hef; clear hef
          go_wp2
          go_quiet (fail)
          go_wp2
          go_ret
          refine ⟨ret_bool ?_, by repeat (first | exact Bel.rfl_ _ | apply Bel.drN)⟩
          have := ne_of_gets HE.out HF.out HEF.out
          simp [this]
      · go_wp2
        go_ret
        refine ⟨ret_bool ?_, by repeat (first | exact Bel.rfl_ _ | apply Bel.drN)⟩
        have h1 := ht.out
        rw [List.take_of_length_le (by omega), List.take_of_length_le (by omega)] at h1
        simp [h1]
  · have hlen : ((xs.length : Int) != (ys.length : Int)) = true := by rw [bne_iff_ne]; omega
    have HL := Lib.hid hl; clear hl
    go_enter Try.func43, Try.ntmps43
    go_wp2
    go_ret
    refine ⟨ret_bool ?_, Bel.rfl_ w⟩
    have : xs ≠ ys := fun h => HL.out (by rw [h])
    simp [this]
def Spn.val (x : Spn) : Value := .agg x.cells.toArray
theorem stoodSp : Try.prog.stoodInHeld 93 = false := by kernel_rfl
theorem eqgSp : Try.prog.eqGuardType Try.prog.depth 93 = false := by kernel_rfl
theorem Sp_eq_iff (e f : Spn) : decide (e = f) = (e.frame == f.frame && (e.fn == f.fn && (e.by_ == f.by_ && (e.from_ == f.from_ && (e.to_ == f.to_ && (e.answer == f.answer)))))) := by
  cases e; cases f; rw [Bool.eq_iff_iff]; simp
theorem run_eq_Sp (e f : Spn) (w : World) : (Op.equalIn 10000 93 e.val f.val).run Try.prog w = .ok (decide (e = f)) w := by
  rw [Sp_eq_iff]
  unfold Spn.val Spn.cells
  rw [show (10000 : Nat) = 9999 + 1 from rfl, run_equalIn_agg _ _ _ _ _ (by simp [go_sem]) stoodSp]
  cases h0 : e.frame == f.frame
  · simp [go_sem, h0]
  cases h1 : e.fn == f.fn
  · simp [go_sem, h0, h1]
  cases h2 : e.by_ == f.by_
  · simp [go_sem, h0, h1, h2]
  cases h3 : e.from_ == f.from_
  · simp [go_sem, h0, h1, h2, h3]
  cases h4 : e.to_ == f.to_
  · simp [go_sem, h0, h1, h2, h3, h4]
  cases h5 : e.answer == f.answer
  · simp [go_sem, h0, h1, h2, h3, h4, h5]
  · simp [go_sem, h0, h1, h2, h3, h4, h5]
theorem neq_Sp (e f : Spn) (w : World) : (binOp .neq 93 e.val f.val).run Try.prog w = .ok (.bool (!decide (e = f))) w := by
  have h := run_eq_Sp e f w
  unfold Spn.val Spn.cells at *
  rw [run_neq_struct, h]
  rfl
theorem eqg_Sp (op : BinOp) (e f : Spn) (x y : Operand) (w : World) : (eqGuard op 93 x y e.val f.val).run Try.prog w = .ok () w :=
  run_eqGuard_agg w _ _ _ _ _ _ eqgSp
theorem Sp_cells {w : World} {b o : Nat} {xs : List Spn} (h : ∀ k x, xs[k]? = some x → spnR.At w b (o + k * 6) x) {k : Nat} {x : Spn} (hx : xs[k]? = some x) : w.cell? ⟨b, o + k * 6, none⟩ = some (.int .i64 x.frame) ∧ w.cell? ⟨b, o + k * 6 + 1, none⟩ = some (.int .i64 x.fn) ∧ w.cell? ⟨b, o + k * 6 + 2, none⟩ = some (.int .i64 x.by_) ∧ w.cell? ⟨b, o + k * 6 + 3, none⟩ = some (.int .i64 x.from_) ∧ w.cell? ⟨b, o + k * 6 + 4, none⟩ = some (.int .i64 x.to_) ∧ w.cell? ⟨b, o + k * 6 + 5, none⟩ = some (.int .i64 x.answer) := by
  obtain ⟨cs, hcs, hc⟩ := h k x hx
  obtain rfl : cs = x.cells := hcs
  exact ⟨hc 0 _ rfl, hc 1 _ rfl, hc 2 _ rfl, hc 3 _ rfl, hc 4 _ rfl, hc 5 _ rfl⟩
/-- 'hindsightref.SameSpans' tells whether two of them are one. -/
theorem sameSp_any (v u : Value) (xs ys : List Spn) (w : World) (hx : Sl spnR w v xs) (hy : Sl spnR w u ys) (hlx : xs.length ≤ 9223372036854775807) (_hly : ys.length ≤ 9223372036854775807) :
    Calls Try.prog 44 #[v, u] w fun r w' => r = .returned (.bool (decide (xs = ys))) ∧ Bel w w' := by
  obtain ⟨A, c, rfl, hc, hm, hA⟩ := hx
  obtain ⟨B, d, rfl, hd, hn, hB⟩ := hy
  have HA := Lib.hid hA; clear hA
  have HB := Lib.hid hB; clear hB
  by_cases hl : xs.length = ys.length
  · have hlen : ((xs.length : Int) != (ys.length : Int)) = false := by rw [hl]; simp
    have hle : xs.length ≤ ys.length := by omega
    have hge : ys.length ≤ xs.length := by omega
    have HL := Lib.hid hl; clear hl
    go_enter Try.func44, Try.ntmps44
    go_wp2
    go_loopw [5] (fun i wr => ∃ k : Nat, k ≤ xs.length ∧ i = .int .i64 k ∧ Hid (xs.take k = ys.take k) ∧ ∃ n, wr = w.drewN n) (fun i _ => xs.length - (intOf i).toNat)
    case atStart => exact ⟨0, by omega, rfl, rfl, 0, rfl⟩
    case round =>
      obtain ⟨k, hk, rfl, ht, n, rfl⟩ := hrel
      by_cases hlt : k < xs.length
      · have hlt' : k < ys.length := by omega
        obtain ⟨e, he⟩ : ∃ e, xs[k]? = some e := ⟨_, List.getElem?_eq_getElem hlt⟩
        obtain ⟨f, hf⟩ : ∃ e, ys[k]? = some e := ⟨_, List.getElem?_eq_getElem hlt'⟩
        obtain ⟨ab, ao, rfl, hA⟩ := HA.out (by omega)
        obtain ⟨bb, bo, rfl, hB⟩ := HB.out (by omega)
        obtain ⟨x0, x1, x2, x3, x4, x5⟩ := Sp_cells hA he
        obtain ⟨y0, y1, y2, y3, y4, y5⟩ := Sp_cells hB hf
        clear hA hB HA HB
        have HE := Lib.hid he; clear he
        have HF := Lib.hid hf; clear hf
        have ne := neq_Sp e f
        have eg := eqg_Sp .neq e f
        unfold Spn.val Spn.cells at ne eg
        by_cases hef : e = f
        · have hdec : decide (e = f) = true := by simpa using hef
          have HEF := Lib.hid hef; clear hef
          go_wp2
          go_quiet (fail)
          go_wp2
          go_roundw
          case rel => exact ⟨k + 1, by omega, by go_num, takes_eq_succ HE.out HF.out ht.out HEF.out, _, rfl⟩
          case measure => simp [intOf]; omega
        · have hdec : decide (e = f) = false := by simpa using hef
          have HEF := Lib.hid hef; clear hef
          go_wp2
          go_quiet (fail)
          go_wp2
          go_ret
          refine ⟨ret_bool ?_, by repeat (first | exact Bel.rfl_ _ | apply Bel.drN)⟩
          have := ne_of_gets HE.out HF.out HEF.out
          simp [this]
      · go_wp2
        go_ret
        refine ⟨ret_bool ?_, by repeat (first | exact Bel.rfl_ _ | apply Bel.drN)⟩
        have h1 := ht.out
        rw [List.take_of_length_le (by omega), List.take_of_length_le (by omega)] at h1
        simp [h1]
  · have hlen : ((xs.length : Int) != (ys.length : Int)) = true := by rw [bne_iff_ne]; omega
    have HL := Lib.hid hl; clear hl
    go_enter Try.func44, Try.ntmps44
    go_wp2
    go_ret
    refine ⟨ret_bool ?_, Bel.rfl_ w⟩
    have : xs ≠ ys := fun h => HL.out (by rw [h])
    simp [this]
theorem small_rightT : RightP smallPs smallT := by
  have h := small_ran.right (N := 6) (errP_ok small_ok) (by decide) (by decide) (by decide) (by decide) (by decide)
  exact h
theorem small_state : stateE smallPs smallT = 0 := by
  have hrt : rightE smallPs smallT = 0 := by decide +kernel
  unfold stateE
  rw [if_neg (by rw [hrt]; decide), if_pos small_rightT]
theorem small_at : atE smallPs smallT 3 = 0 := by
  unfold atE
  rw [if_neg (by rw [small_state]; decide), if_neg (by decide)]
theorem small_hist : histE smallPs smallT 0 0 = 0 := by
  unfold histE
  rw [if_neg (by rw [small_state]; decide), if_neg (by decide)]
theorem small_frs : frsAt smallPs smallT 3 = [⟨0, 0, [[7]]⟩] := by decide +kernel
theorem small_histL : histTo smallPs smallT 0 0 6 = [⟨2, 0, 0, 7⟩] := by decide +kernel
theorem small_calls : callsTo smallPs smallT 6 = [⟨0, 0, -1, 0, 5, 0⟩] := by decide +kernel
theorem sl_one {α : Type} {r : Rep α} {W : World} {g : Nat} {t : TypeId} {cs : List Value} {x : α} (hb : Blk W g t cs.toArray) (hr : r.R W cs x) : Sl r W (.slice (some ⟨g, 0, none⟩) 1 1) [x] :=
  ⟨_, 1, rfl, Nat.le_refl _, ⟨by decide, fun h => by cases h⟩, fun _ => ⟨g, 0, rfl, fun k y hy => by
    cases k with
    | zero =>
      obtain rfl : x = y := by simpa using hy
      refine ⟨cs, hr, fun j u hu => ?_⟩
      have h1 := hb.cell (i := j) (v := u) (by simpa using hu)
      rwa [show 0 + 0 * r.size + j = j by omega]
    | succ k => simp at hy⟩⟩
set_option maxRecDepth 20000 in
set_option maxHeartbeats 4000000 in
theorem stateBegun_any (w : World) : Calls Try.prog 41 #[] w fun r w' => r = .returned (.bool true) ∧ Bel w w' := by
  have hlen : smallT.length = 6 := rfl
  go_enter Try.func41, Try.ntmps41
  go_wp2_with fail
  refine (small_any _).mono ?_
  rintro r w1 ⟨v1, rfl, h1, b1⟩
  have HP1 := Lib.hid h1
  have HB1 := Lib.hid b1
  clear h1 b1
  go_wp2_with fail
  refine (smallTrace_any _).mono ?_
  rintro r w2 ⟨u2, rfl, h2, b2⟩
  have HT2 := Lib.hid (Sl.own_ev h2 rfl)
  have HP2 := Lib.hid (HP1.out.keep b2)
  have HB2 := Lib.hid (HB1.out.tr b2)
  clear h2 b2 HP1 HB1
  go_wp2_with fail
  refine (stAt_any smallPs smallT 3 _ _ _ HP2.out HT2.out).mono ?_
  rintro r w3 ⟨b3, va, rfl, -, ha⟩
  have HA3 := Lib.hid (ha small_at)
  rw [small_at]
  have HB3 := Lib.hid (HB2.out.tr b3)
  clear b3 ha HB2 HP2 HT2
  go_wp2_with fail
  refine (small_any _).mono ?_
  rintro r w4 ⟨v4, rfl, h4, b4⟩
  have HP4 := Lib.hid h4
  have HB4 := Lib.hid (HB3.out.tr b4)
  have HA4 := Lib.hid (HA3.out.keep b4)
  clear h4 b4 HB3 HA3
  go_wp2_with fail
  refine (smallTrace_any _).mono ?_
  rintro r w5 ⟨u5, rfl, h5, b5⟩
  have HT5 := Lib.hid (Sl.own_ev h5 rfl)
  have HP5 := Lib.hid (HP4.out.keep b5)
  have HB5 := Lib.hid (HB4.out.tr b5)
  have HA5 := Lib.hid (HA4.out.keep b5)
  clear h5 b5 HB4 HA4 HP4
  go_wp2_with fail
  refine (stHist_any smallPs smallT 0 0 _ _ _ HP5.out HT5.out).mono ?_
  rintro r w6 ⟨b6, vh, rfl, -, hh⟩
  have HH6 := Lib.hid (hh small_hist)
  rw [small_hist]
  have HB6 := Lib.hid (HB5.out.tr b6)
  have HA6 := Lib.hid (HA5.out.keep b6)
  clear b6 hh HB5 HA5 HP5 HT5
  go_wp2_with fail
  refine (small_any _).mono ?_
  rintro r w7 ⟨v7, rfl, h7, b7⟩
  have HP7 := Lib.hid h7
  have HB7 := Lib.hid (HB6.out.tr b7)
  have HA7 := Lib.hid (HA6.out.keep b7)
  have HH7 := Lib.hid (HH6.out.keep b7)
  clear h7 b7 HB6 HA6 HH6
  go_wp2_with fail
  refine (smallTrace_any _).mono ?_
  rintro r w8 ⟨u8, rfl, h8, b8⟩
  have HT8 := Lib.hid (Sl.own_ev h8 rfl)
  have HP8 := Lib.hid (HP7.out.keep b8)
  have HB8 := Lib.hid (HB7.out.tr b8)
  have HA8 := Lib.hid (HA7.out.keep b8)
  have HH8 := Lib.hid (HH7.out.keep b8)
  clear h8 b8 HB7 HA7 HH7 HP7
  go_wp2_with fail
  refine (stCalls_any smallPs smallT _ _ _ HP8.out HT8.out).mono ?_
  rintro r w9 ⟨b9, vc, rfl, -, hc⟩
  have HC9 := Lib.hid (hc small_state)
  rw [small_state]
  have HB9 := Lib.hid (HB8.out.tr b9)
  have HA9 := Lib.hid (HA8.out.keep b9)
  have HH9 := Lib.hid (HH8.out.keep b9)
  clear b9 hc HB8 HA8 HH8 HP8 HT8
  have b10 := ((((Bel.rfl_ w9).al (.cells #[.int .i64 7] INT)).al (.cells #[.slice (some ⟨w9.heap.size, 0, none⟩) 1 1] INTS)).al (.cells #[.int .i64 0, .int .i64 0, .slice (some ⟨w9.heap.size + 1, 0, none⟩) 1 1] SFT))
  have k1 := (Blk.new w9 INT #[.int .i64 7]).keep (((Bel.rfl_ _).al (.cells #[.slice (some ⟨w9.heap.size, 0, none⟩) 1 1] INTS)).al (.cells #[.int .i64 0, .int .i64 0, .slice (some ⟨w9.heap.size + 1, 0, none⟩) 1 1] SFT))
  have k2 := (Blk.new (w9.alloc (.cells #[.int .i64 7] INT)) INTS #[.slice (some ⟨w9.heap.size, 0, none⟩) 1 1]).keep ((Bel.rfl_ _).al (.cells #[.int .i64 0, .int .i64 0, .slice (some ⟨w9.heap.size + 1, 0, none⟩) 1 1] SFT))
  have k3 := Blk.new ((w9.alloc (.cells #[.int .i64 7] INT)).alloc (.cells #[.slice (some ⟨w9.heap.size, 0, none⟩) 1 1] INTS)) SFT #[.int .i64 0, .int .i64 0, .slice (some ⟨w9.heap.size + 1, 0, none⟩) 1 1]
  simp only [alloc_size] at k2 k3
  have HS := Lib.hid (sl_one (r := frR) (cs := [.int .i64 0, .int .i64 0, .slice (some ⟨w9.heap.size + 1, 0, none⟩) 1 1]) (x := ⟨0, 0, [[7]]⟩) k3 ⟨_, rfl, sl_one (r := intsR) (cs := [.slice (some ⟨w9.heap.size, 0, none⟩) 1 1]) k2 ⟨_, rfl, sl_one (r := intR) (cs := [.int .i64 7]) k1 rfl⟩⟩)
  have HB10 := Lib.hid (HB9.out.tr b10)
  have HA10 := Lib.hid (HA9.out.keep b10)
  have HH10 := Lib.hid (HH9.out.keep b10)
  have HC10 := Lib.hid (HC9.out.keep b10)
  clear k1 k2 k3 b10 HA9 HB9 HH9 HC9
  rw [small_frs] at HA10
  rw [hlen, small_histL] at HH10
  rw [hlen, small_calls] at HC10
  go_wp2_with fail
  refine (sameFrames_any _ _ _ _ _ HA10.out HS.out).mono ?_
  rintro r w11 ⟨rfl, b11⟩
  rw [decide_eq_true rfl]
  have b12 := b11.al (.cells #[.int .i64 2, .int .i64 0, .int .i64 0, .int .i64 7] VLT)
  have k4 := Blk.new w11 VLT #[.int .i64 2, .int .i64 0, .int .i64 0, .int .i64 7]
  have HS2 := Lib.hid (sl_one (r := vlR) (cs := [.int .i64 2, .int .i64 0, .int .i64 0, .int .i64 7]) (x := ⟨2, 0, 0, 7⟩) k4 rfl)
  have HB12 := Lib.hid (HB10.out.tr b12)
  have HH12 := Lib.hid (HH10.out.keep b12)
  have HC12 := Lib.hid (HC10.out.keep b12)
  clear k4 b12 b11 HA10 HB10 HH10 HC10 HS
  go_wp2_with fail
  refine (sameVl_any _ _ _ _ _ HH12.out HS2.out (by decide) (by decide)).mono ?_
  rintro r w13 ⟨rfl, b13⟩
  rw [decide_eq_true rfl]
  have b14 := b13.al (.cells #[.int .i64 0, .int .i64 0, .int .i64 (-1), .int .i64 0, .int .i64 5, .int .i64 0] SPT)
  have k5 := Blk.new w13 SPT #[.int .i64 0, .int .i64 0, .int .i64 (-1), .int .i64 0, .int .i64 5, .int .i64 0]
  have HS3 := Lib.hid (sl_one (r := spnR) (cs := [.int .i64 0, .int .i64 0, .int .i64 (-1), .int .i64 0, .int .i64 5, .int .i64 0]) (x := ⟨0, 0, -1, 0, 5, 0⟩) k5 rfl)
  have HB14 := Lib.hid (HB12.out.tr b14)
  have HC14 := Lib.hid (HC12.out.keep b14)
  clear k5 b14 b13 HH12 HB12 HC12 HS2
  go_wp2_with fail
  refine (sameSp_any _ _ _ _ _ HC14.out HS3.out (by decide) (by decide)).mono ?_
  rintro r w15 ⟨rfl, b15⟩
  rw [decide_eq_true rfl]
  have HB15 := Lib.hid (HB14.out.tr b15)
  clear b15 HB14 HC14 HS3
  go_wp2
  go_ret
  exact ⟨rfl, HB15.out⟩
end Go.Proofs.Ytgkpplbomciehaa
