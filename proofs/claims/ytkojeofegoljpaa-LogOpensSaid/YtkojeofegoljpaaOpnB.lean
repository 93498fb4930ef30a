/- LogOpens answers true: the walk. Each lemma states its own conditions. -/
import Derived.Test.YtkojeofegoljpaaOpnA
import Derived.Deep.DeepCutAuto
namespace Go.Proofs.Ytkojeofegoljpaa
open Go.RowKit

set_option maxRecDepth 20000 in
set_option maxHeartbeats 4000000 in
theorem lOpens_any (n : Int) (bv av kv : Value) (batches : List (List Ev)) (ats : List Int) (keep : List Bool) (w : World) (hb : Sl (Rep.slice evR) w bv batches)
    (ha : Sl intR w av ats) (hk : Sl boolR w kv keep) (hkl : keep.length ≤ 140737488351232) :
    Calls Try.prog 6 #[.int .i64 n, bv, av, kv] w fun r w' => r = .returned (.bool true) ∧ Bel w w' := by
  have HLB := Lib.hid logBegun_any
  have HDB := Lib.hid diskBegun_any
  have HFM := Lib.hid (fun W => format_any n W)
  have HKV := Lib.hid hk
  have HBV := Lib.hid hb
  have HAV := Lib.hid ha
  obtain ⟨B1, c1, rfl, -, hm1, hbat⟩ := hb
  obtain ⟨B2, c2, rfl, -, hm2, hatc⟩ := ha
  obtain ⟨B3, c3, rfl, -, -, -⟩ := hk
  have HBAT := Lib.hid hbat
  have HATC := Lib.hid hatc
  clear hbat hatc hm1 hm2
  go_enter Try.func6, Try.ntmps6
  go_wp2_with fail
  refine (HLB.out _).mono ?_
  rintro r w1 ⟨rfl, hb1⟩
  go_wp2_with fail
  refine (HDB.out _).mono ?_
  rintro r w2 ⟨rfl, hb2⟩
  have HB := Lib.hid (hb1.tr hb2)
  clear hb1 hb2 HLB HDB
  go_wp2_with fail
  refine (HFM.out _).mono ?_
  rintro r w3 ⟨val, rfl, hdo, hb3⟩
  replace HB := Lib.hid (HB.out.tr hb3)
  obtain ⟨X1, g1, X2, g2, rfl, hd1, hd2⟩ := hdo.dkv
  have HDV := Lib.hid hdo.dkv
  clear hb3 HFM hdo hd1 hd2
  by_cases hn : n < 4 ∨ 600 < n
  · obtain ⟨e1, e2⟩ := fmt_bad hn
    rw [e2] at HDV ⊢
    rw [e1]
    have hQ := Blk.new w3 25 #[.slice X1 noDk.kept.length g1, .slice X2 noDk.written.length g2]
    have HB4 := Lib.hid (HB.out.al (.cells #[.slice X1 noDk.kept.length g1, .slice X2 noDk.written.length g2] 25))
    have q0 := hQ.cell (i := 0) (v := .slice X1 0 g1) rfl
    clear HDV hQ e1 e2
    by_cases h4 : n < 4
    · have d4 : decide (n < 4) = true := decide_eq_true h4
      go_wp2
      go_ret
      exact ⟨rfl, HB4.out⟩
    · have d4 : decide (n < 4) = false := decide_eq_false h4
      have d6 : decide (600 < n) = true := decide_eq_true (by omega)
      go_wp2
      go_ret
      exact ⟨rfl, HB4.out⟩
  · obtain ⟨m, rfl⟩ : ∃ m : Nat, n = m := ⟨n.toNat, by omega⟩
    have d4 : decide ((m : Int) < 4) = false := decide_eq_false (by omega)
    have d6 : decide (600 < (m : Int)) = false := decide_eq_false (by omega)
    have hm : 4 ≤ m ∧ m ≤ 600 := by omega
    have HST := Lib.hid (St.fmt hm)
    rw [fmt_err hm]
    generalize fmtDk (m : Int) = D at *
    have HH := Lib.hid (Hold.new HDV.out)
    have HBZ := HB
    replace HB := Lib.hid (HB.out.al (.cells #[.slice X1 D.kept.length g1, .slice X2 D.written.length g2] 25))
    have HVL : Hid (w.heap.size ≤ w3.heap.size) := Lib.hid HBZ.out.size
    go_upto_region 6 with fail
    generalize w3.alloc (.cells #[.slice X1 D.kept.length g1, .slice X2 D.written.length g2] 25) = w4 at *
    generalize w3.heap.size = V at *
    clear HDV
    obtain ⟨D1, b1, D2, b2, hBk, hDv⟩ := HH.out
    have v0 := hBk.cell (i := 0) (v := .slice D1 D.kept.length b1) rfl
    have v1 := hBk.cell (i := 1) (v := .slice D2 D.written.length b2) rfl
    have HDv := Lib.hid hDv
    have HCD := Lib.hid (fun W (hb : Bel w4 W) => checkDisk_any D _ W (hDv.keep hb) (Dk.ok_of HST.out.err))
    have hwl : D.written.length = 0 := by rw [HST.out.wr]; rfl
    have hkl : D.kept.length = m := HST.out.len
    rw [HST.out.err] at HCD
    rw [hwl] at v1 HCD
    rw [hkl] at v0 HCD
    clear hBk hDv HDv hwl hkl
    go_wp2_with fail
    refine (HCD.out _ (Bel.rfl_ _)).mono ?_
    rintro r w5 ⟨rfl, hb5⟩
    replace v0 := hb5.cell v0
    replace v1 := hb5.cell v1
    have hbX := Lib.hid hb5
    clear hb5
    go_wp2
    have HH := Lib.hid (HH.out.keep hbX.out)
    have HB := Lib.hid (HB.out.tr hbX.out)
    clear hbX HCD v0 v1
    go_loopw [11, 12, 13] (fun tv nd iv wr => ∃ (k : Nat) (bs : List (List Ev)) (A : Option Addr) (c : Nat) (need : Int) (D : Dk), k ≤ 40 ∧ tv = .slice A bs.length c ∧ nd = .int .i64 need ∧ iv = .int .i64 k ∧ Hid (St m D bs need k) ∧ Hid (Th w wr (.slice A bs.length c) bs) ∧ Hid (Hold wr V D) ∧ Hid (Bel w wr)) (fun _ _ t _ => 40 - (intOf t).toNat)
    case atStart => exact ⟨0, [], none, 0, 4, D, by omega, rfl, rfl, rfl, HST, Lib.hid (Th.nil _ _), HH, HB⟩
    case round =>
      clear HH HB HST
      obtain ⟨k, bs, A, c, need, D, hk40, rfl, rfl, rfl, HST, HT, HH, HB⟩ := hrel
      by_cases hi : k < batches.length ∧ k < 40
      rotate_left
      · by_cases hi1 : k < batches.length
        · have d1 : decide ((k : Int) < batches.length) = true := decide_eq_true (by omega)
          have d2 : decide ((k : Int) < 40) = false := decide_eq_false (by omega)
          go_wp2
          go_ret
          exact ⟨rfl, HB.out⟩
        · have d1 : decide ((k : Int) < batches.length) = false := decide_eq_false (by omega)
          go_wp2
          go_ret
          exact ⟨rfl, HB.out⟩
      · obtain ⟨hi1, hi2⟩ := hi
        have d1 : decide ((k : Int) < batches.length) = true := decide_eq_true (by omega)
        have d2 : decide ((k : Int) < 40) = true := decide_eq_true (by omega)
        obtain ⟨l, hl⟩ : ∃ l, batches[k]? = some l := ⟨_, List.getElem?_eq_getElem hi1⟩
        obtain ⟨b, o, rfl, hcell⟩ := HBAT.out (by omega)
        obtain ⟨lv, hlc, hls⟩ := slv_cell hcell hl
        have hlc := HB.out.cell hlc
        have HLS := Lib.hid hls
        obtain ⟨L, cl, rfl, -, -, -⟩ := hls
        clear hcell hl
        go_upto_region 14 with fail
        by_cases h60 : 60 < l.length
        · have d60 : decide ((60 : Int) < l.length) = true := decide_eq_true (by omega)
          clear hlc
          go_wp2
          go_roundw
          case rel => exact ⟨k + 1, bs, A, c, need, D, by omega, rfl, rfl, by go_num, Lib.hid HST.out.more, HT, HH, HB⟩
          case measure => simp [intOf]; omega
        have d60 : decide ((60 : Int) < l.length) = false := decide_eq_false (by omega)
        have HSM := Lib.hid (fun W (hb : Bel w W) => areSmall_any _ l W (HLS.out.keep hb) (by unfold ok64; omega))
        go_wp2_with fail
        refine (HSM.out _ HB.out).mono ?_
        rintro r w6 ⟨rfl, hb6⟩
        replace HB := Lib.hid (HB.out.tr hb6)
        replace HT := Lib.hid (HT.out.keep hb6)
        replace HH := Lib.hid (HH.out.keep hb6)
        clear hb6 hlc HSM
        by_cases hsm : l.all evSmall = true
        rotate_left
        · have hsm : l.all evSmall = false := by simpa using hsm
          rw [hsm]
          go_wp2
          go_roundw
          case rel => exact ⟨k + 1, bs, A, c, need, D, by omega, rfl, rfl, by go_num, Lib.hid HST.out.more, HT, HH, HB⟩
          case measure => simp [intOf]; omega
        rw [hsm]
        obtain ⟨D1, b1, D2, b2, hBk, hDv⟩ := HH.out
        have v0 := hBk.cell (i := 0) (v := .slice D1 D.kept.length b1) rfl
        have v1 := hBk.cell (i := 1) (v := .slice D2 D.written.length b2) rfl
        have HDv := Lib.hid hDv
        have HAP := Lib.hid (fun W (hb : Bel w6 W) => St.append HST.out (by omega) hsm _ _ W (hDv.keep hb) (HLS.out.keep (HB.out.tr hb)))
        clear hBk hDv
        have HSM := Lib.hid hsm
        clear hsm
        go_wp2_with fail
        refine (HAP.out _ (by first | exact Bel.rfl_ _ | exact (Bel.rfl_ _).dr)).mono ?_
        rintro r w7 ⟨hap, hb7⟩
        have HB7 := Lib.hid (HB.out.tr hb7)
        have hneed := HST.out.need
        have wr1 : IntKind.i64.wrap (need + 2) = need + 2 := by rw [IntKind.wrap_i64]; omega
        have wr2 : IntKind.i64.wrap (need + 2 + l.length) = need + 2 + l.length := by rw [IntKind.wrap_i64]; omega
        clear HAP v0 v1 d1 d2 d60
        rcases hap with ⟨rfl, hsp⟩ | ⟨t, u, X1', g1', X2', g2', AW, cW, rfl, hlo, hu, ht, hun, hX, hW⟩
        · have dsp : decide ((m : Int) < need + 2 + l.length) = true := decide_eq_true hsp
          have q0 := (Blk.new w7 25 #[.slice none 0 0, .slice none 0 0]).cell (i := 0) (v := .slice none 0 0) rfl
          clear hsp
          go_wp2
          go_ret
          exact ⟨rfl, HB7.out.al _⟩
        have hn2 : decide ((need + 2 + (l.length : Int)) < m) = decide ((need + 2 + (l.length : Int)) < m) := rfl
        obtain ⟨-, -, hu2, -⟩ := loadOf_in hlo
        have hwl := ways_len D.kept t u l
        obtain ⟨hst1, hst2⟩ := ways_steps (t := t) HST.out.err (by omega : l.length ≤ 60) hu hu2
        have HNX := Lib.hid (fun K DK hK => St.next HST.out (by omega) HSM.out (by omega) hlo hu ht hun keep (k := K) (D := DK) hK)
        have hfw := appF_wr D.kept t u l
        generalize appF D.kept t u l = F at *
        generalize appWays D.kept t u l = ways at *
        clear hn2 hlo hu ht hun hu2
        rw [hfw] at hX ⊢
        have HWI := Lib.hid (fun W va wv vx h1 h2 h3 => wayIs_any D F va wv vx ways w6.heap.size W h1 h2 h3 hst1 hst2 (by omega) hfw (by omega))
        have hbx := (Bel.rfl_ w7).al (.cells #[.slice X1' F.kept.length g1', .slice X2' 0 g2'] 25)
        have HXV := Lib.hid (hX.keep hbx)
        have HWV := Lib.hid (hW.keep hbx)
        have HQX := Lib.hid (Blk.new w7 25 #[.slice X1' F.kept.length g1', .slice X2' 0 g2'])
        have HVX : Hid (V < w7.heap.size) := Lib.hid (HH.out.keep hb7).lt
        replace HB := Lib.hid (HB7.out.tr hbx)
        replace HH := Lib.hid ((HH.out.keep hb7).keep hbx)
        replace HT := Lib.hid ((HT.out.keep hb7).keep hbx)
        replace HDv := Lib.hid ((HDv.out.keep hb7).keep hbx)
        have HWL := Lib.hid hwl
        clear hX hW hb7 HB7 hbx hwl hst1 hst2 hfw
        go_upto_region 18 with fail
        generalize w7.alloc (.cells #[.slice X1' F.kept.length g1', .slice X2' 0 g2'] 25) = W8 at *
        generalize w7.heap.size = X at *
        clear HDv
        obtain ⟨D1, b1, D2, b2, hBk, hDv⟩ := HH.out
        have v0 := hBk.cell (i := 0) (v := .slice D1 D.kept.length b1) rfl
        have v1 := hBk.cell (i := 1) (v := .slice D2 D.written.length b2) rfl
        have x0 := HQX.out.cell (i := 0) (v := .slice X1' F.kept.length g1') rfl
        have x1 := HQX.out.cell (i := 1) (v := .slice X2' 0 g2') rfl
        have HC := Lib.hid (fun W (hb : Bel W8 W) => HWI.out W _ _ _ (hDv.keep hb) (HWV.out.keep hb) (HXV.out.keep hb))
        clear hBk hDv HWI HXV HVX
        go_wp2_with fail
        refine (HC.out _ (by first | exact Bel.rfl_ _ | exact (Bel.rfl_ _).dr)).mono ?_
        rintro r w9 ⟨rfl, hb9⟩
        replace HB := Lib.hid (HB.out.tr hb9)
        replace HH := Lib.hid (HH.out.keep hb9)
        replace HT := Lib.hid (HT.out.keep hb9)
        replace HWV := Lib.hid (HWV.out.keep hb9)
        have wr3 : IntKind.i64.wrap ((l.length : Int) + 4 - 1) = l.length + 3 := by rw [IntKind.wrap_i64]; omega
        have wr4 : IntKind.i64.wrap ((l.length : Int) + 4) = l.length + 4 := by rw [IntKind.wrap_i64]; omega
        clear hb9 v0 v1 x0 x1 HC HQX
        go_upto_region 21 with fail
        obtain ⟨RB, hRB⟩ : ∃ b : Bool, b = true ↔ ∃ x, ats[k]? = some x ∧ 0 ≤ x ∧ x < (l.length : Int) + 4 := ⟨decide (∃ x, ats[k]? = some x ∧ 0 ≤ x ∧ x < (l.length : Int) + 4), by simp⟩
        have HRB := Lib.hid hRB
        clear hRB
        go_cut [146] (fun x wx => x = .bool RB ∧ wx = w9)
        case first =>
          clear HNX HH HT HWV HWL HSM
          as_aux_lemma =>
            by_cases ha : k < ats.length
            · have da : decide ((k : Int) < ats.length) = true := decide_eq_true (by omega)
              obtain ⟨x, hx⟩ : ∃ x, ats[k]? = some x := ⟨_, List.getElem?_eq_getElem ha⟩
              obtain ⟨b, o, rfl, hcell⟩ := HATC.out (by omega)
              have hxc := HB.out.cell (intR.cell hcell hx)
              have HX := Lib.hid hx
              clear hcell hx
              by_cases h0 : 0 ≤ x
              · have d0 : decide ((0 : Int) ≤ x) = true := decide_eq_true h0
                by_cases h4 : x < (l.length : Int) + 4
                · have d4 : decide (x < (l.length : Int) + 4) = true := decide_eq_true h4
                  obtain rfl : RB = true := HRB.out.2 ⟨x, HX.out, h0, h4⟩
                  go_wp2
                  go_meet
                  exact ⟨rfl, rfl⟩
                · have d4 : decide (x < (l.length : Int) + 4) = false := decide_eq_false h4
                  obtain rfl : RB = false := by cases RB with
                    | false => rfl
                    | true => obtain ⟨y, hy, h1, h2⟩ := HRB.out.1 rfl
                              rw [HX.out] at hy
                              injection hy with hy
                              omega
                  go_wp2
                  go_meet
                  exact ⟨rfl, rfl⟩
              · have d0 : decide ((0 : Int) ≤ x) = false := decide_eq_false h0
                obtain rfl : RB = false := by cases RB with
                  | false => rfl
                  | true => obtain ⟨y, hy, h1, h2⟩ := HRB.out.1 rfl
                            rw [HX.out] at hy
                            injection hy with hy
                            omega
                go_wp2
                go_meet
                exact ⟨rfl, rfl⟩
            · have da : decide ((k : Int) < ats.length) = false := decide_eq_false (by omega)
              obtain rfl : RB = false := by cases RB with
                | false => rfl
                | true => obtain ⟨y, hy, h1, h2⟩ := HRB.out.1 rfl
                          have := (List.getElem?_eq_some_iff.1 hy).1
                          omega
              go_wp2
              go_meet
              exact ⟨rfl, rfl⟩
        case rest =>
        obtain ⟨rfl, rfl⟩ := hcut
        go_upto_if 146 with fail
        go_cut [18] from 68 to 200 (fun x wx => ∃ K : Nat, K < l.length + 4 ∧ x = .int .i64 K ∧ wx = wc)
        case first =>
          clear HNX HH HT HWV HWL HSM
          as_aux_lemma =>
            cases RB with
            | false =>
              go_wp2
              go_meet
              exact ⟨l.length + 3, by omega, by go_num, rfl⟩
            | true =>
              obtain ⟨x, hx, h0, h4⟩ := HRB.out.1 rfl
              obtain ⟨b, o, rfl, hcell⟩ := HATC.out (by have := (List.getElem?_eq_some_iff.1 hx).1; omega)
              have hxc := HB.out.cell (intR.cell hcell hx)
              have hlt := (List.getElem?_eq_some_iff.1 hx).1
              clear hcell hx
              go_wp2
              go_meet
              exact ⟨x.toNat, by omega, by rw [Int.toNat_of_nonneg h0], rfl⟩
        case rest =>
        obtain ⟨K, hK, rfl, rfl⟩ := hcut
        obtain ⟨DK, hDK⟩ : ∃ DK, ways[K]? = some DK := ⟨_, List.getElem?_eq_getElem (by have := HWL.out; omega)⟩
        obtain ⟨hde, os, hoe, hlo, hor, hst1, hst2⟩ := HNX.out K DK hDK
        obtain ⟨ps, hpo, hpn, hpa⟩ := HWV.out
        rw [hpn, HWL.out] at hpo
        obtain ⟨g, cw2, hAW⟩ := ownsRow_some hpo (by omega)
        injection hAW with hAW _ hcw
        subst hAW
        subst hcw
        obtain ⟨p, hp⟩ : ∃ p, ps[K]? = some p := ⟨_, List.getElem?_eq_getElem (by have := HWL.out; omega)⟩
        have hdo := hpa K p DK hp hDK
        obtain ⟨F1, f1, F2, f2, hpe, -, -⟩ := hdo.lit
        simp only [Value.agg.injEq, Array.mk.injEq, List.cons.injEq, and_true] at hpe
        obtain ⟨g1', g2'⟩ := prC_get ps K p hp
        rw [hpe.1] at g1'
        rw [hpe.2] at g2'
        rw [hpe.1, hpe.2] at hdo
        have y0 := (own_cell hpo g1').1
        have y1 := (own_cell hpo g2').1
        have HCR := Lib.hid (fun W (hb : Bel wc W) => crash_any DK _ _ keep W (hdo.dkv.keep hb) (Dk.ok_of hde) (HKV.out.keep (HB.out.tr hb)) hkl)
        have hop1 := Dk.ok_of ((Dk.crashed_of hde keep).1)
        rw [hde] at HCR
        have HOP := Lib.hid (fun W v h => lopen_any (DK.crashed keep) v W h hop1)
        have HOE := Lib.hid hoe
        have HLO := Lib.hid hlo
        have HOR := Lib.hid hor
        have HS1 := Lib.hid hst1
        have HS2 := Lib.hid hst2
        generalize DK.crashed keep = Y at *
        clear hDK hde hoe hlo hor hst1 hst2 hpo hpn hpa hp hdo hpe g1' g2' HNX HWV HWL hop1
        go_upto_region 23 with fail
        go_wp2_with fail
        refine (HCR.out _ (by first | exact Bel.rfl_ _ | exact (Bel.rfl_ _).dr)).mono ?_
        rintro r w10 ⟨vy, rfl, hyv, hb10⟩
        obtain ⟨Y1, h1, Y2, h2, rfl, -, -⟩ := id hyv
        have hbx := (Bel.rfl_ w10).al (.cells #[.slice Y1 Y.kept.length h1, .slice Y2 Y.written.length h2] 25)
        have HYV := Lib.hid (hyv.keep hbx)
        have HQY := Lib.hid (Blk.new w10 25 #[.slice Y1 Y.kept.length h1, .slice Y2 Y.written.length h2])
        have HVZ : Hid (V < w10.heap.size) := Lib.hid (HH.out.keep hb10).lt
        replace HB := Lib.hid ((HB.out.tr hb10).tr hbx)
        replace HH := Lib.hid ((HH.out.keep hb10).keep hbx)
        replace HT := Lib.hid ((HT.out.keep hb10).keep hbx)
        clear hyv hb10 hbx y0 y1 HCR
        go_upto_region 26 with fail
        generalize w10.alloc (.cells #[.slice Y1 Y.kept.length h1, .slice Y2 Y.written.length h2] 25) = W11 at *
        generalize w10.heap.size = Z at *
        have z0 := HQY.out.cell (i := 0) (v := .slice Y1 Y.kept.length h1) rfl
        have z1 := HQY.out.cell (i := 1) (v := .slice Y2 Y.written.length h2) rfl
        go_wp2_with fail
        refine (HOP.out _ _ HYV.out).mono ?_
        rintro r w12 ⟨hop, hb12⟩
        obtain ⟨ov, rfl, -, hbo⟩ := hop
        obtain ⟨t', u', hlo⟩ := HLO.out
        have HOS := Lib.hid (hbo HOE.out t' u' os hlo).sl
        rw [HOE.out]
        obtain ⟨OA, oc, rfl, -, -, -⟩ := id HOS.out
        replace HB := Lib.hid (HB.out.tr hb12)
        replace HH := Lib.hid (HH.out.keep hb12)
        replace HT := Lib.hid (HT.out.keep hb12)
        replace HQY := Lib.hid (HQY.out.keep hb12)
        replace HYV := Lib.hid (HYV.out.keep hb12)
        obtain ⟨A', c', vs, hTe, hTo, hTn, hTa, hT1, hTN, hTC⟩ := HT.out.lit
        injection hTe with e1 _ e2
        subst e1
        subst e2
        have hbs := HST.out.cnt
        have hba := (Bel.rfl_ w12).al (.cells #[] 45)
        have HTN := Lib.hid hTN
        have HTC : Hid (0 < bs.length → ∃ b off, A = some ⟨b, off, none⟩ ∧ CellsAt (w12.alloc (.cells #[] 45)) b off vs) := Lib.hid (fun hp => by
          obtain ⟨b, off, h3, h4⟩ := hTC hp
          exact ⟨b, off, h3, h4.keep hba⟩)
        have HT1 := Lib.hid hT1
        have HTA := Lib.hid hTa
        have HTL := Lib.hid hTn
        have HQ1 : Hid (bs.length + 1 ≤ maxLen) := Lib.hid (by simp only [maxLen]; omega)
        have HQ2 : Hid ((bs.length + 1) * 24 ≤ 140737488355328) := Lib.hid (by omega)
        have HBW : Hid (w.heap.size ≤ w12.heap.size) := Lib.hid HB.out.size
        have HOE0 := Lib.hid (own_empty w12 45 1 w12.heap.size (Nat.le_refl _))
        clear hTo hTn hTa hT1 hTN hTC hbo hlo hb12 z0 z1 HOP hba
        go_upto_region 29 with fail
        go_wp2_with (at_builtin; first
          | (refine wpl_appAll (w12.alloc (.cells #[] 45)) rfl (.tmp 169) (.tmp 170) 49 rfl w12.heap.size elBsL (.slice (some ⟨w12.heap.size, 0, none⟩) 0 0) 0 [] rfl HOE0.out A bs.length c vs rfl HTL.out HTN.out HTC.out HT1.out (by have := HQ1.out; omega) (by have := HQ2.out; omega) (by simp) ?_; intro v13 w13 hown hg _; rw [Nat.zero_add, List.nil_append] at hown; obtain ⟨A13, c13, rfl, -, -⟩ := own_lit hown; have HO := Lib.hid hown; have HB13 := Lib.hid (Below.ofGrown ((Bel.rfl_ w12).al (.cells #[] 45)) HOE0.out hg (Nat.le_refl _) (by simp)); clear hown hg)
          | (go_loud (refine wpl_app w13 rfl (.tmp 171) (.tmp 173) 49 rfl w12.heap.size elBsL (.slice A13 bs.length c13) bs.length vs rfl HO.out [.slice L l.length cl] rfl rfl (by simp [Value.oneCell']) HQ1.out HQ2.out HB13.out.size ?_); intro gW cW14 w14 hown hg _; have HO14 := Lib.hid hown; have HB14 := Lib.hid (Below.ofGrown HB13.out HO.out hg (Nat.le_refl _) HB13.out.size); clear hown hg))
        have HTW : Hid (Th w w14 (.slice (some ⟨gW, 0, none⟩) (bs.length + 1) cW14) (bs ++ [l])) := Lib.hid (Th.snoc HTL.out HTA.out HLS.out (own_base HO14.out HBW.out))
        have hsl := HST.out.small
        have hos : os.length ≤ 1000000 ∧ ∀ x ∈ os, ok64 x.length := by
          rcases HOR.out with ⟨rfl, -⟩ | rfl
          · exact ⟨by omega, fun x hx => by unfold ok64; have := hsl x hx; omega⟩
          · refine ⟨by simp; omega, fun x hx => ?_⟩
            unfold ok64
            rcases List.mem_append.1 hx with hx | hx
            · have := hsl x hx
              omega
            · obtain rfl := List.mem_singleton.1 hx
              omega
        have HSB : Hid (∀ W v (ys : List (List Ev)), Bel w14 W → Sl (Rep.slice evR) W v ys → ys.length ≤ 1000000 → (∀ y ∈ ys, ok64 y.length) → Calls Try.prog 28 #[.slice OA os.length oc, v] W fun r w' => r = .returned (.bool (decide (os = ys))) ∧ Bel W w') := Lib.hid (fun W v ys hb hy h1 h2 => sameBatches_any _ v os ys W ((HOS.out.keep HB14.out).keep hb) hy hos.1 h1 hos.2 h2)
        have HSB1 : Hid (∀ W, Bel w14 W → Calls Try.prog 28 #[.slice OA os.length oc, .slice (some ⟨gW, 0, none⟩) (bs.length + 1) cW14] W fun r w' => r = .returned (.bool (decide (os = bs ++ [l]))) ∧ Bel W w') := Lib.hid (fun W hb => by
          refine HSB.out W _ (bs ++ [l]) hb (by have := HTW.out.sl ((HB.out.tr HB14.out)); simpa using this.keep hb) (by simp; omega) (fun x hx => ?_)
          unfold ok64
          rcases List.mem_append.1 hx with hx | hx
          · have := hsl x hx
            omega
          · obtain rfl := List.mem_singleton.1 hx
            omega)
        replace HB := Lib.hid (HB.out.tr HB14.out)
        replace HH := Lib.hid (HH.out.keep HB14.out)
        replace HT := Lib.hid (HT.out.keep HB14.out)
        replace HQY := Lib.hid (HQY.out.keep HB14.out)
        replace HYV := Lib.hid (HYV.out.keep HB14.out)
        have HSB2 : Hid (∀ W, Bel w14 W → Calls Try.prog 28 #[.slice OA os.length oc, .slice A bs.length c] W fun r w' => r = .returned (.bool (decide (os = bs))) ∧ Bel W w') := Lib.hid (fun W hb => HSB.out W _ bs hb ((HT.out.sl HB.out).keep hb) (by omega) (fun x hx => by unfold ok64; have := hsl x hx; omega))
        clear hos hsl HSB HTA HTL HO14 HO HB13 HB14 HTN HTC HT1 HQ1 HQ2 HOE0 HOS
        refine (HSB1.out _ (by first | exact Bel.rfl_ _ | exact (Bel.rfl_ _).dr)).mono ?_
        rintro r w15 ⟨rfl, hb15⟩
        replace HB := Lib.hid (HB.out.tr hb15)
        replace HH := Lib.hid (HH.out.keep hb15)
        replace HT := Lib.hid (HT.out.keep hb15)
        replace HTW := Lib.hid (HTW.out.keep hb15)
        replace HQY := Lib.hid (HQY.out.keep hb15)
        replace HYV := Lib.hid (HYV.out.keep hb15)
        have HSB2 := Lib.hid (fun W (hb : Bel w15 W) => HSB2.out W (hb15.tr hb))
        clear hb15 HSB1
        by_cases his : os = bs ++ [l]
        · have di : decide (os = bs ++ [l]) = true := decide_eq_true his
          rw [di]
          have HS := Lib.hid (HS2.out his)
          clear HS1 HS2 HOR HSB2 HT di his
          have z0 := HQY.out.cell (i := 0) (v := .slice Y1 Y.kept.length h1) rfl
          have z1 := HQY.out.cell (i := 1) (v := .slice Y2 Y.written.length h2) rfl
          have wr5 : IntKind.i64.wrap (2 + (l.length : Int)) = 2 + l.length := by rw [IntKind.wrap_i64]; omega
          have wr6 : IntKind.i64.wrap (need + (2 + (l.length : Int))) = need + (2 + l.length) := by rw [IntKind.wrap_i64]; omega
          have hll : bs.length + 1 = (bs ++ [l]).length := by simp
          rw [hll] at HTW
          clear hll
          obtain ⟨E1, e1, E2, e2, hBk, -⟩ := HH.out
          have v0 := hBk.cell (i := 0) (v := .slice E1 D.kept.length e1) rfl
          have v1 := hBk.cell (i := 1) (v := .slice E2 D.written.length e2) rfl
          have vf0 := hBk.frozen 0
          have vf1 := hBk.frozen 1
          have HBk := Lib.hid hBk
          clear hBk
          go_wp2
          go_roundw
          case rel =>
            exact ⟨k + 1, bs ++ [l], some ⟨gW, 0, none⟩, cW14, need + (2 + l.length), Y, by omega, by rw [List.length_append]; rfl, rfl, by go_num, HS, Lib.hid (HTW.out.aside HBk.out _ _), Lib.hid (Hold.set HH.out HYV.out), Lib.hid ((HB.out.setCell (p := ⟨V, 0, none⟩) HVL.out _).setCell (p := ⟨V, 1, none⟩) HVL.out _)⟩
          case measure => simp [intOf]; omega
        · have di : decide (os = bs ++ [l]) = false := decide_eq_false his
          rw [di]
          obtain ⟨hob, hKn⟩ : os = bs ∧ K ≠ l.length + 3 := HOR.out.resolve_right his
          have HS := Lib.hid (HS1.out hob)
          have dK : ((K : Int) == (l.length : Int) + 3) = false := beq_eq_false_iff_ne.2 (by omega)
          have db : decide (os = bs) = true := decide_eq_true hob
          rw [db] at HSB2
          clear HS1 HS2 HOR HTW di his hob hKn db
          go_wp2_with fail
          refine (HSB2.out _ (by first | exact Bel.rfl_ _ | exact (Bel.rfl_ _).dr)).mono ?_
          rintro r w16 ⟨rfl, hb16⟩
          replace HB := Lib.hid (HB.out.tr hb16)
          replace HH := Lib.hid (HH.out.keep hb16)
          replace HT := Lib.hid (HT.out.keep hb16)
          replace HQY := Lib.hid (HQY.out.keep hb16)
          replace HYV := Lib.hid (HYV.out.keep hb16)
          have z0 := HQY.out.cell (i := 0) (v := .slice Y1 Y.kept.length h1) rfl
          have z1 := HQY.out.cell (i := 1) (v := .slice Y2 Y.written.length h2) rfl
          clear hb16 HSB2
          obtain ⟨E1, e1, E2, e2, hBk, -⟩ := HH.out
          have v0 := hBk.cell (i := 0) (v := .slice E1 D.kept.length e1) rfl
          have v1 := hBk.cell (i := 1) (v := .slice E2 D.written.length e2) rfl
          have vf0 := hBk.frozen 0
          have vf1 := hBk.frozen 1
          have HBk := Lib.hid hBk
          clear hBk
          go_wp2
          go_roundw
          case rel =>
            exact ⟨k + 1, _, _, _, _, Y, by omega, rfl, rfl, by go_num, HS, Lib.hid (HT.out.aside HBk.out _ _), Lib.hid (Hold.set HH.out HYV.out), Lib.hid ((HB.out.setCell (p := ⟨V, 0, none⟩) HVL.out _).setCell (p := ⟨V, 1, none⟩) HVL.out _)⟩
          case measure => simp [intOf]; omega

end Go.Proofs.Ytkojeofegoljpaa
