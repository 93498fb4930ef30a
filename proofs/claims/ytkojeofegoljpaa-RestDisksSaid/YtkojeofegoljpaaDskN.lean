/- Whether two disks are one. Each lemma states its own conditions. -/
import Derived.Test.YtkojeofegoljpaaDskM
namespace Go.Proofs.Ytkojeofegoljpaa
open Go.RowKit

theorem stoodWr : Try.prog.stoodInHeld 71 = false := by kernel_rfl
theorem eqgWr : Try.prog.eqGuardType Try.prog.depth 71 = false := by kernel_rfl
theorem beq_bytes (a b : ByteArray) : (a == b) = decide (a = b) := by
  rw [beq_toListBytes, ByteArray.toList_eq, ByteArray.toList_eq]
  obtain ⟨⟨x⟩⟩ := a
  obtain ⟨⟨y⟩⟩ := b
  rw [Bool.eq_iff_iff]
  simp
theorem wr_eq_iff (x y : Wr) : decide (x = y) = (x.sector == y.sector && x.bytes.toList == y.bytes.toList) := by
  cases x; cases y; rw [← beq_toListBytes, beq_bytes, Bool.eq_iff_iff]; simp
theorem run_eq_wr (x y : Wr) (w : World) : (Op.equalIn 10000 71 (.agg #[.int .i64 x.sector, .string x.bytes]) (.agg #[.int .i64 y.sector, .string y.bytes])).run Try.prog w = .ok (decide (x = y)) w := by
  rw [wr_eq_iff]
  rw [show (10000 : Nat) = 9999 + 1 from rfl, run_equalIn_agg _ _ _ _ _ (by simp [go_sem]) stoodWr]
  cases h0 : x.sector == y.sector
  · simp [go_sem, h0]
  cases h1 : x.bytes.toList == y.bytes.toList
  · simp [go_sem, h0, h1]
  · simp [go_sem, h0, h1]
theorem neq_wr (x y : Wr) (w : World) : (binOp .neq 71 (.agg #[.int .i64 x.sector, .string x.bytes]) (.agg #[.int .i64 y.sector, .string y.bytes])).run Try.prog w = .ok (.bool (!decide (x = y))) w := by
  rw [run_neq_struct, run_eq_wr]
  rfl
theorem eqg_wr (op : BinOp) (x y : Wr) (p q : Operand) (w : World) : (eqGuard op 71 p q (.agg #[.int .i64 x.sector, .string x.bytes]) (.agg #[.int .i64 y.sector, .string y.bytes])).run Try.prog w = .ok () w :=
  run_eqGuard_agg w _ _ _ _ _ _ eqgWr
theorem take_eq_succ {α : Type} {xs ys : List α} {k : Nat} {x y : α} (hx : xs[k]? = some x) (hy : ys[k]? = some y) (h : xs.take k = ys.take k) (e : x = y) : xs.take (k + 1) = ys.take (k + 1) := by
  rw [List.take_add_one, List.take_add_one, h, hx, hy, e]
theorem ne_of_get {α : Type} {xs ys : List α} {k : Nat} {x y : α} (hx : xs[k]? = some x) (hy : ys[k]? = some y) (e : x ≠ y) : xs ≠ ys := by
  rintro rfl
  rw [hx] at hy
  exact e (by injection hy)

/-- whether two disks are one -/
def sameDk (a b : Dk) : Bool := decide (a.kept = b.kept ∧ a.written = b.written)
set_option maxRecDepth 20000 in
set_option maxHeartbeats 1000000 in
theorem sameDisk_any (a b : Dk) (va vb : Value) (w : World) (ha : DkV w a va) (hb : DkV w b vb) :
    Calls Try.prog 21 #[va, vb] w fun r w' => r = .returned (.bool (sameDk a b)) ∧ Bel w w' := by
  have HD : Hid (decide (a.kept = b.kept ∧ a.written = b.written) = sameDk a b) := Lib.hid rfl
  generalize sameDk a b = T at *
  obtain ⟨A1, c1, A2, c2, rfl, h1, h2⟩ := ha
  obtain ⟨B1, d1, B2, d2, rfl, h3, h4⟩ := hb
  obtain ⟨hl1, hl2⟩ := dkLen h1 h2
  obtain ⟨hl3, hl4⟩ := dkLen h3 h4
  have H1 := Lib.hid h1.at_
  have H2 := Lib.hid h2.at_
  have H3 := Lib.hid h3.at_
  have H4 := Lib.hid h4.at_
  clear h1 h2 h3 h4
  generalize a.kept = ks at *
  generalize a.written = ws at *
  generalize b.kept = ls at *
  generalize b.written = xs at *
  have hB0 : Bel w ((w.alloc (.cells #[.slice A1 ks.length c1, .slice A2 ws.length c2] 25)).alloc (.cells #[.slice B1 ls.length d1, .slice B2 xs.length d2] 25)) := ((Bel.rfl_ w).al _).al _
  have hQ := (Blk.new w 25 #[.slice A1 ks.length c1, .slice A2 ws.length c2]).keep ((Bel.rfl_ _).al (.cells #[.slice B1 ls.length d1, .slice B2 xs.length d2] 25))
  have hR := Blk.new (w.alloc (.cells #[.slice A1 ks.length c1, .slice A2 ws.length c2] 25)) 25 #[.slice B1 ls.length d1, .slice B2 xs.length d2]
  rw [World.size_alloc] at hR
  have HB0 := Lib.hid hB0
  have HQ := Lib.hid hQ
  have HR := Lib.hid hR
  clear hB0 hQ hR
  by_cases hk : ks.length = ls.length
  · have hlen : ((ks.length : Int) != (ls.length : Int)) = false := by rw [hk]; simp
    have hle : ls.length ≤ ks.length := by omega
    have hge : ks.length ≤ ls.length := by omega
    have HK := Lib.hid hk; clear hk
    by_cases hw : ws.length = xs.length
    · have hlen2 : ((ws.length : Int) != (xs.length : Int)) = false := by rw [hw]; simp
      have hle2 : xs.length ≤ ws.length := by omega
      have hge2 : ws.length ≤ xs.length := by omega
      have HW := Lib.hid hw; clear hw
      go_enter Try.func21, Try.ntmps21
      go_wp2
      go_loopw [5] (fun i wr => ∃ k : Nat, k ≤ ks.length ∧ i = .int .i64 k ∧ Hid (ks.take k = ls.take k) ∧ Hid (Bel ((w.alloc (.cells #[.slice A1 ks.length c1, .slice A2 ws.length c2] 25)).alloc (.cells #[.slice B1 ls.length d1, .slice B2 xs.length d2] 25)) wr)) (fun i _ => ks.length - (intOf i).toNat)
      case atStart => exact ⟨0, by omega, rfl, rfl, Bel.rfl_ _⟩
      case round =>
        obtain ⟨k, hk, rfl, ht, hbw⟩ := hrel
        have q0 : wr.cell? ⟨w.heap.size, 0, none⟩ = some (.slice A1 ks.length c1) := (HQ.out.keep hbw.out).cell (i := 0) rfl
        have r0 : wr.cell? ⟨w.heap.size + 1, 0, none⟩ = some (.slice B1 ls.length d1) := (HR.out.keep hbw.out).cell (i := 0) rfl
        have HBW := Lib.hid (HB0.out.tr hbw.out)
        by_cases hlt : k < ks.length
        · have hlt' : k < ls.length := by omega
          obtain ⟨x, hx⟩ : ∃ e, ks[k]? = some e := ⟨_, List.getElem?_eq_getElem hlt⟩
          obtain ⟨y, hy⟩ : ∃ e, ls[k]? = some e := ⟨_, List.getElem?_eq_getElem hlt'⟩
          obtain ⟨ab, ao, rfl, hA⟩ := H1.out (by omega)
          obtain ⟨bb, bo, rfl, hB⟩ := H3.out (by omega)
          have x0 := HBW.out.cell (strR.cell hA hx)
          have y0 := HBW.out.cell (strR.cell hB hy)
          clear hA hB
          have HX := Lib.hid hx; clear hx
          have HY := Lib.hid hy; clear hy
          by_cases hxy : x = y
          · have hdec : (x.toList == y.toList) = true := by rw [← beq_toListBytes, beq_bytes]; simp [hxy]
            have HXY := Lib.hid hxy; clear hxy
            go_wp2
            go_quiet (fail)
            go_wp2
            go_roundw
            case rel => exact ⟨k + 1, by omega, by go_num, take_eq_succ HX.out HY.out ht.out HXY.out, hbw.out.drN _⟩
            case measure => simp [intOf]; omega
          · have hdec : (x.toList == y.toList) = false := by rw [← beq_toListBytes, beq_bytes]; simp [hxy]
            have HXY := Lib.hid hxy; clear hxy
            go_wp2
            go_quiet (fail)
            go_wp2
            go_ret
            refine ⟨ret_bool ?_, HBW.out.drN _⟩
            have := ne_of_get HX.out HY.out HXY.out
            rw [← HD.out]
            simp [this]
        · have HKE : Hid (ks = ls) := Lib.hid (by
            have h1 := ht.out
            rw [List.take_of_length_le (by omega), List.take_of_length_le (by omega)] at h1
            exact h1)
          clear ht H1 H3
          generalize wr = W1 at *
          go_wp2
          go_loopw [6] (fun i wr => ∃ k : Nat, k ≤ ws.length ∧ i = .int .i64 k ∧ Hid (ws.take k = xs.take k) ∧ Hid (Bel W1 wr)) (fun i _ => ws.length - (intOf i).toNat)
          case atStart => exact ⟨0, by omega, rfl, rfl, Bel.rfl_ _⟩
          case round =>
            obtain ⟨k, hk, rfl, ht, hbx⟩ := hrel
            have q1 : wr.cell? ⟨w.heap.size, 1, none⟩ = some (.slice A2 ws.length c2) := (HQ.out.keep (hbw.out.tr hbx.out)).cell (i := 1) rfl
            have r1 : wr.cell? ⟨w.heap.size + 1, 1, none⟩ = some (.slice B2 xs.length d2) := (HR.out.keep (hbw.out.tr hbx.out)).cell (i := 1) rfl
            have HBX := Lib.hid (HBW.out.tr hbx.out)
            by_cases hlt : k < ws.length
            · have hlt' : k < xs.length := by omega
              obtain ⟨x, hx⟩ : ∃ e, ws[k]? = some e := ⟨_, List.getElem?_eq_getElem hlt⟩
              obtain ⟨y, hy⟩ : ∃ e, xs[k]? = some e := ⟨_, List.getElem?_eq_getElem hlt'⟩
              obtain ⟨ab, ao, rfl, hA⟩ := H2.out (by omega)
              obtain ⟨bb, bo, rfl, hB⟩ := H4.out (by omega)
              obtain ⟨x0, x1⟩ := wrR.cells hA hx
              obtain ⟨y0, y1⟩ := wrR.cells hB hy
              have x0 := HBX.out.cell x0
              have x1 := HBX.out.cell x1
              have y0 := HBX.out.cell y0
              have y1 := HBX.out.cell y1
              clear hA hB
              have HX := Lib.hid hx; clear hx
              have HY := Lib.hid hy; clear hy
              have ne := neq_wr x y
              have eg := eqg_wr .neq x y
              by_cases hxy : x = y
              · have hdec : decide (x = y) = true := by simpa using hxy
                have HXY := Lib.hid hxy; clear hxy
                go_wp2
                go_quiet (fail)
                go_wp2
                go_roundw
                case rel => exact ⟨k + 1, by omega, by go_num, take_eq_succ HX.out HY.out ht.out HXY.out, hbx.out.drN _⟩
                case measure => simp [intOf]; omega
              · have hdec : decide (x = y) = false := by simpa using hxy
                have HXY := Lib.hid hxy; clear hxy
                go_wp2
                go_quiet (fail)
                go_wp2
                go_ret
                refine ⟨ret_bool ?_, HBX.out.drN _⟩
                have := ne_of_get HX.out HY.out HXY.out
                rw [← HD.out]
                simp [this]
            · have HWE : Hid (ws = xs) := Lib.hid (by
                have h1 := ht.out
                rw [List.take_of_length_le (by omega), List.take_of_length_le (by omega)] at h1
                exact h1)
              go_wp2
              go_ret
              refine ⟨ret_bool ?_, HBX.out⟩
              rw [← HD.out]
              simp [HKE.out, HWE.out]
    · have hlen2 : ((ws.length : Int) != (xs.length : Int)) = true := by rw [bne_iff_ne]; omega
      have HW := Lib.hid hw; clear hw
      go_enter Try.func21, Try.ntmps21
      go_wp2
      go_ret
      refine ⟨ret_bool ?_, HB0.out⟩
      have : ws ≠ xs := fun h => HW.out (by rw [h])
      rw [← HD.out]
      simp [this]
  · have hlen : ((ks.length : Int) != (ls.length : Int)) = true := by rw [bne_iff_ne]; omega
    have HK := Lib.hid hk; clear hk
    go_enter Try.func21, Try.ntmps21
    go_wp2
    go_ret
    refine ⟨ret_bool ?_, HB0.out⟩
    have : ks ≠ ls := fun h => HK.out (by rw [h])
    rw [← HD.out]
    simp [this]

end Go.Proofs.Ytkojeofegoljpaa
