/- DiskKeeps answers true: the walk. Each lemma states its own conditions. -/
import Derived.Test.YtkojeofegoljpaaDskS
namespace Go.Proofs.Ytkojeofegoljpaa
open Go.RowKit

set_option maxRecDepth 20000 in
set_option maxHeartbeats 4000000 in
theorem dKeeps_any (d : Dk) (val kv : Value) (n : Int) (s : ByteArray) (l : List Bool) (w : World) (h : DkV w d val) (ho : d.ok) (hs : s.size ≤ maxLen) (hk : Sl boolR w kv l) (hl : l.length ≤ 140737488351232) :
    Calls Try.prog 4 #[val, .int .i64 n, .string s, kv] w fun r w' => r = .returned (.bool true) ∧ Bel w w' := by
  have HWRITE := Lib.hid (fun val W h => write_any d val n s W h ho hs)
  have HBEG := Lib.hid diskBegun_any
  have HH := Lib.hid h
  have HK := Lib.hid hk
  by_cases hz : d.wr n s = 0
  rotate_left
  · have hU := Lib.hid (wrote_none hz)
    generalize d.wrote n s = U at *
    generalize d.wr n s = WE at *
    obtain ⟨A1, c1, A2, c2, rfl, h1, h2⟩ := h
    obtain ⟨A3, c3, rfl, -⟩ := hk
    have hW0 : (WE == 0) = false := by simpa using hz
    clear h1 h2 ho hs hl hz
    go_enter Try.func4, Try.ntmps4
    go_wp2_with fail
    refine (HWRITE.out _ _ (HH.out.keep (by repeat (first | exact Bel.rfl_ _ | apply Bel.al | apply Bel.dr)))).mono ?_
    rintro r w1 ⟨v1, rfl, hd, hb⟩
    obtain ⟨B1, f1, C1, g1, rfl, -, -⟩ := hd
    have HB := Lib.hid ((((Bel.rfl_ w).al (.cells #[.slice A1 d.kept.length c1, .slice A2 d.written.length c2] 25)).tr hb).al (.cells #[.slice B1 U.kept.length f1, .slice C1 U.written.length g1] 25))
    have HX := Lib.hid (Blk.new w1 25 #[.slice B1 U.kept.length f1, .slice C1 U.written.length g1])
    clear hb
    go_upto_region 2 with fail
    go_wp2_with fail
    refine (HBEG.out _).mono ?_
    rintro r w2 ⟨rfl, hb⟩
    replace HB := Lib.hid (HB.out.tr hb)
    have x0 := (HX.out.keep hb).cell (i := 0) (v := .slice B1 U.kept.length f1) rfl
    clear hb HX
    rw [hU.out] at x0
    go_wp2
    go_ret
    exact ⟨rfl, HB.out⟩
  · have HPU : Hid (d.wrote n s = d.put n s) := Lib.hid (by rw [Dk.wrote, if_pos hz])
    have hPe := put_err hz
    have hPo := Dk.ok_of hPe
    obtain ⟨hFe, -, -⟩ := Dk.flushed_of hPe
    have hFo := Dk.ok_of hFe
    have HR1 : Hid (∀ val W, DkV W (d.put n s) val → Calls Try.prog 9 #[val, .int .i64 n] W fun r w' => r = .returned (.tuple #[.string s, .int .i64 0]) ∧ Bel W w') := Lib.hid (fun val W hv => by
      have := read_any (d.put n s) val n W hv hPo
      rw [put_read hz, put_one hz] at this
      exact this)
    have HR2 : Hid (∀ val W, DkV W (d.put n s).flushed val → Calls Try.prog 9 #[val, .int .i64 n] W fun r w' => r = .returned (.tuple #[.string s, .int .i64 0]) ∧ Bel W w') := Lib.hid (fun val W hv => by
      have := read_any (d.put n s).flushed val n W hv hFo
      rw [(put_flushed_read hz).1, (put_flushed_read hz).2] at this
      exact this)
    have HFL : Hid (∀ val W, DkV W (d.put n s) val → Calls Try.prog 11 #[val] W fun r w' => ∃ val', r = .returned (.tuple #[val', .int .i64 0]) ∧ DkV w' (d.put n s).flushed val' ∧ Bel W w') := Lib.hid (fun val W hv => by
      have := flush_any (d.put n s) val W hv hPo
      rw [hPe] at this
      exact this)
    have HCR : Hid (∀ val W, DkV W (d.put n s).flushed val → Bel w W → Calls Try.prog 12 #[val, kv] W fun r w' => ∃ val', r = .returned (.tuple #[val', .int .i64 0]) ∧ DkV w' (d.put n s).flushed val' ∧ Bel W w') := Lib.hid (fun val W hv hb => by
      have := crash_any (d.put n s).flushed val kv l W hv hFo (HK.out.keep hb) hl
      rw [hFe, Dk.crashed_flushed hPe] at this
      exact this)
    have HSM : Hid (∀ va vb W, DkV W (d.put n s).flushed va → DkV W (d.put n s).flushed vb → Calls Try.prog 21 #[va, vb] W fun r w' => r = .returned (.bool true) ∧ Bel W w') := Lib.hid (fun va vb W h1 h2 => by
      have := sameDisk_any (d.put n s).flushed (d.put n s).flushed va vb W h1 h2
      rw [sameDk_self] at this
      exact this)
    replace HWRITE := Lib.hid (by have := HWRITE.out; rw [HPU.out, hz] at this; exact this)
    clear hPe hPo hFe hFo HPU hz
    generalize (d.put n s).flushed = V at *
    generalize d.put n s = U at *
    obtain ⟨A1, c1, A2, c2, rfl, h1, h2⟩ := h
    obtain ⟨A3, c3, rfl, -⟩ := hk
    clear h1 h2 ho hs hl
    go_enter Try.func4, Try.ntmps4
    go_wp2_with fail
    refine (HWRITE.out _ _ (HH.out.keep (by repeat (first | exact Bel.rfl_ _ | apply Bel.al | apply Bel.dr)))).mono ?_
    rintro r w1 ⟨v1, rfl, hd, hb⟩
    have HD := Lib.hid hd
    obtain ⟨B1, f1, C1, g1, rfl, -, -⟩ := hd
    have HB := Lib.hid ((((Bel.rfl_ w).al (.cells #[.slice A1 d.kept.length c1, .slice A2 d.written.length c2] 25)).tr hb).al (.cells #[.slice B1 U.kept.length f1, .slice C1 U.written.length g1] 25))
    replace HD := Lib.hid (HD.out.keep ((Bel.rfl_ w1).al (.cells #[.slice B1 U.kept.length f1, .slice C1 U.written.length g1] 25)))
    have HX := Lib.hid (Blk.new w1 25 #[.slice B1 U.kept.length f1, .slice C1 U.written.length g1])
    clear hb
    go_upto_region 2 with fail
    generalize w1.heap.size = X at *
    generalize w1.alloc (.cells #[.slice B1 U.kept.length f1, .slice C1 U.written.length g1] 25) = W1 at *
    go_wp2_with fail
    refine (HBEG.out _).mono ?_
    rintro r w2 ⟨rfl, hb⟩
    replace HB := Lib.hid (HB.out.tr hb)
    replace HD := Lib.hid (HD.out.keep hb)
    replace HX := Lib.hid (HX.out.keep hb)
    have x0 := HX.out.cell (i := 0) (v := .slice B1 U.kept.length f1) rfl
    have x1 := HX.out.cell (i := 1) (v := .slice C1 U.written.length g1) rfl
    clear hb
    go_wp2_with fail
    refine (HR1.out _ _ HD.out).mono ?_
    rintro r w3 ⟨rfl, hb⟩
    replace HB := Lib.hid (HB.out.tr hb)
    replace HD := Lib.hid (HD.out.keep hb)
    replace HX := Lib.hid (HX.out.keep hb)
    have x0 := HX.out.cell (i := 0) (v := .slice B1 U.kept.length f1) rfl
    have x1 := HX.out.cell (i := 1) (v := .slice C1 U.written.length g1) rfl
    clear hb
    go_wp2_with fail
    refine (HFL.out _ _ HD.out).mono ?_
    rintro r w4 ⟨v4, rfl, hd, hb⟩
    clear x0 x1 HD HX
    have HD := Lib.hid (hd.keep ((Bel.rfl_ w4)))
    obtain ⟨B2, f2, C2, g2, rfl, -, -⟩ := hd
    replace HB := Lib.hid ((HB.out.tr hb).al (.cells #[.slice B2 V.kept.length f2, .slice C2 V.written.length g2] 25))
    replace HD := Lib.hid (HD.out.keep ((Bel.rfl_ w4).al (.cells #[.slice B2 V.kept.length f2, .slice C2 V.written.length g2] 25)))
    have HX := Lib.hid (Blk.new w4 25 #[.slice B2 V.kept.length f2, .slice C2 V.written.length g2])
    clear hb
    go_upto_region 8 with fail
    generalize w4.heap.size = Y at *
    generalize w4.alloc (.cells #[.slice B2 V.kept.length f2, .slice C2 V.written.length g2] 25) = W4 at *
    have x0 := HX.out.cell (i := 0) (v := .slice B2 V.kept.length f2) rfl
    have x1 := HX.out.cell (i := 1) (v := .slice C2 V.written.length g2) rfl
    go_wp2_with fail
    refine (HCR.out _ _ HD.out HB.out).mono ?_
    rintro r w5 ⟨v5, rfl, hd, hb⟩
    have HE := Lib.hid hd
    obtain ⟨B3, f3, C3, g3, rfl, -, -⟩ := hd
    replace HB := Lib.hid ((HB.out.tr hb).al (.cells #[.slice B3 V.kept.length f3, .slice C3 V.written.length g3] 25))
    replace HD := Lib.hid ((HD.out.keep hb).keep ((Bel.rfl_ w5).al (.cells #[.slice B3 V.kept.length f3, .slice C3 V.written.length g3] 25)))
    replace HX := Lib.hid ((HX.out.keep hb).keep ((Bel.rfl_ w5).al (.cells #[.slice B3 V.kept.length f3, .slice C3 V.written.length g3] 25)))
    replace HE := Lib.hid (HE.out.keep ((Bel.rfl_ w5).al (.cells #[.slice B3 V.kept.length f3, .slice C3 V.written.length g3] 25)))
    have HY := Lib.hid (Blk.new w5 25 #[.slice B3 V.kept.length f3, .slice C3 V.written.length g3])
    clear hb x0 x1
    go_upto_region 9 with fail
    generalize w5.heap.size = Z at *
    generalize w5.alloc (.cells #[.slice B3 V.kept.length f3, .slice C3 V.written.length g3] 25) = W5 at *
    have y0 := HY.out.cell (i := 0) (v := .slice B3 V.kept.length f3) rfl
    have y1 := HY.out.cell (i := 1) (v := .slice C3 V.written.length g3) rfl
    go_wp2_with fail
    refine (HR2.out _ _ HE.out).mono ?_
    rintro r w6 ⟨rfl, hb⟩
    replace HB := Lib.hid (HB.out.tr hb)
    replace HD := Lib.hid (HD.out.keep hb)
    replace HX := Lib.hid (HX.out.keep hb)
    replace HE := Lib.hid (HE.out.keep hb)
    replace HY := Lib.hid (HY.out.keep hb)
    clear y0 y1 hb
    have x0 := HX.out.cell (i := 0) (v := .slice B2 V.kept.length f2) rfl
    have x1 := HX.out.cell (i := 1) (v := .slice C2 V.written.length g2) rfl
    have y0 := HY.out.cell (i := 0) (v := .slice B3 V.kept.length f3) rfl
    have y1 := HY.out.cell (i := 1) (v := .slice C3 V.written.length g3) rfl
    go_wp2_with fail
    refine (HSM.out _ _ _ HD.out HE.out).mono ?_
    rintro r w7 ⟨rfl, hb⟩
    replace HB := Lib.hid (HB.out.tr hb)
    clear x0 x1 y0 y1 hb
    go_wp2
    go_ret
    exact ⟨rfl, HB.out⟩

end Go.Proofs.Ytkojeofegoljpaa
