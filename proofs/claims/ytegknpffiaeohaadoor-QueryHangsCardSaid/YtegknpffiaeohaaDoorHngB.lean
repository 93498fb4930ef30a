/- QueryHangs answers true: the walk. Each lemma states its own conditions. -/
import Derived.Test.YtegknpffiaeohaaDoorHngA
import Derived.Test.YtegknpffiaeohaaDoorQBeg
import Derived.Deep.RegionLaw
namespace Go.Proofs.YtegknpffiaeohaaDoor
open Go.RowKit

theorem asks_own {w : World} {G : Nat} {t : TypeId} {q : Ask} {v : Value} (h : Blk w G t #[.int .i64 q.kind, .int .i64 q.n, v]) (hs : Sl askR w v q.args) : Sl askR w (.slice (some ⟨G, 0, none⟩) 1 1) [q] := by
  obtain ⟨k, n, args⟩ := q
  exact asks_one h hs
theorem asks_three (W : World) (q : Ask) (v : Value) (t : TypeId) (hs : Sl askR W v q.args) :
    AskV (((W.alloc (.cells #[.int .i64 q.kind, .int .i64 q.n, v] t)).alloc (.cells #[.int .i64 7, .int .i64 0, .slice (some ⟨W.heap.size, 0, none⟩) 1 1] t)).alloc (.cells #[.int .i64 12, .int .i64 0, .slice (some ⟨W.heap.size + 1, 0, none⟩) 1 1] t)) (.mk 7 0 [.mk 12 0 [.mk 7 0 [q]]]) (.agg #[.int .i64 7, .int .i64 0, .slice (some ⟨W.heap.size + 1 + 1, 0, none⟩) 1 1]) := by
  have b1 := Blk.new W t #[.int .i64 q.kind, .int .i64 q.n, v]
  have b2 := Blk.new (W.alloc (.cells #[.int .i64 q.kind, .int .i64 q.n, v] t)) t #[.int .i64 7, .int .i64 0, .slice (some ⟨W.heap.size, 0, none⟩) 1 1]
  have b3 := Blk.new ((W.alloc (.cells #[.int .i64 q.kind, .int .i64 q.n, v] t)).alloc (.cells #[.int .i64 7, .int .i64 0, .slice (some ⟨W.heap.size, 0, none⟩) 1 1] t)) t #[.int .i64 12, .int .i64 0, .slice (some ⟨W.heap.size + 1, 0, none⟩) 1 1]
  rw [World.size_alloc] at b2
  rw [World.size_alloc, World.size_alloc] at b3
  have e1 := (Bel.rfl_ W).al (.cells #[.int .i64 q.kind, .int .i64 q.n, v] t)
  have e2 := (Bel.rfl_ (W.alloc (.cells #[.int .i64 q.kind, .int .i64 q.n, v] t))).al (.cells #[.int .i64 7, .int .i64 0, .slice (some ⟨W.heap.size, 0, none⟩) 1 1] t)
  have e3 := (Bel.rfl_ ((W.alloc (.cells #[.int .i64 q.kind, .int .i64 q.n, v] t)).alloc (.cells #[.int .i64 7, .int .i64 0, .slice (some ⟨W.heap.size, 0, none⟩) 1 1] t))).al (.cells #[.int .i64 12, .int .i64 0, .slice (some ⟨W.heap.size + 1, 0, none⟩) 1 1] t)
  exact ⟨_, rfl, asks_one b3 (asks_one (b2.keep e3) (asks_own (b1.keep (e2.tr e3)) (hs.keep (e1.tr (e2.tr e3)))))⟩
theorem sl_take {α : Type} {r : Rep α} {w : World} {A : Option Addr} {n cap c : Nat} {xs : List α} (h : Sl r w (.slice A n cap) xs) (hc : c ≤ xs.length) : Sl r w (.slice A c cap) (xs.take c) ∧ xs.length ≤ cap := by
  obtain ⟨A', c', e, h1, h2, h3⟩ := h
  injection e with e1 e2 e3
  subst e1 e2 e3
  refine ⟨?_, h1⟩
  have := Sl.cut (A' := A) (C' := cap) (i := 0) (j := c) h1 h2 h3 hc (by split; rfl; cases A <;> simp [Addr.add]) (by omega)
  simpa using this
theorem holdL_of {q : Ask} {l : List Ev} (h : holdErr q l.length = 0) : holdL q l = q.holds l := if_pos h

set_option maxRecDepth 20000 in
set_option maxHeartbeats 2000000 in
theorem qHangs_any (q r : Ask) (qv rv lv : Value) (l : List Ev) (cut : Int) (w : World) (hq : AskV w q qv) (hr : AskV w r rv) (hv : Sl evR w lv l) (hl : l.length * 48 ≤ 140737488351232) (ht : Tab w) :
    Calls Tryd.prog 7 #[qv, rv, lv, .int .i64 cut] w fun r w' => r = .returned (.bool true) ∧ Bel w w' := by
  obtain ⟨qs, rfl, hqs⟩ := hq
  obtain ⟨rs, rfl, hrs⟩ := hr
  obtain ⟨QA, qc, rfl, -⟩ := id hqs
  obtain ⟨RA, rc, rfl, -⟩ := id hrs
  obtain ⟨LA, lc, rfl, hlc, hlm, hLA⟩ := id hv
  have HQ := Lib.hid ((Blk.new w 24 #[.int .i64 q.kind, .int .i64 q.n, .slice QA q.args.length qc]).keep ((Bel.rfl_ _).al (.cells #[.int .i64 r.kind, .int .i64 r.n, .slice RA r.args.length rc] 24)))
  have HR := Lib.hid (Blk.new (w.alloc (.cells #[.int .i64 q.kind, .int .i64 q.n, .slice QA q.args.length qc] 24)) 24 #[.int .i64 r.kind, .int .i64 r.n, .slice RA r.args.length rc])
  have HB := Lib.hid (((Bel.rfl_ w).al (.cells #[.int .i64 q.kind, .int .i64 q.n, .slice QA q.args.length qc] 24)).al (.cells #[.int .i64 r.kind, .int .i64 r.n, .slice RA r.args.length rc] 24))
  rw [World.size_alloc] at HR
  have HQS := Lib.hid hqs
  have HRS := Lib.hid hrs
  have HV := Lib.hid hv
  have HT := Lib.hid ht
  have HCT := Lib.hid (And.intro hlc (And.intro hlm hLA))
  clear hqs hrs hv ht hlm hLA
  go_enter Tryd.func7, Tryd.ntmps7
  go_upto_region 1 with fail
  generalize (w.alloc (.cells #[.int .i64 q.kind, .int .i64 q.n, .slice QA q.args.length qc] 24)).alloc (.cells #[.int .i64 r.kind, .int .i64 r.n, .slice RA r.args.length rc] 24) = W0 at *
  generalize w.heap.size = Q at *
  go_wp2_with fail
  refine (queryBegun_any _ (HT.out.keep HB.out)).mono ?_
  rintro e w1 ⟨rfl, hb1⟩
  replace HB := Lib.hid (HB.out.tr hb1)
  replace HQ := Lib.hid (HQ.out.keep hb1)
  replace HR := Lib.hid (HR.out.keep hb1)
  clear hb1
  have HC := Lib.hid (fun W (hb : Bel w1 W) => And.intro ((HQ.out.keep hb).cell (i := 0) (v := .int .i64 q.kind) rfl) (And.intro ((HQ.out.keep hb).cell (i := 1) (v := .int .i64 q.n) rfl) (And.intro ((HQ.out.keep hb).cell (i := 2) (v := .slice QA q.args.length qc) rfl)
    (And.intro ((HR.out.keep hb).cell (i := 0) (v := .int .i64 r.kind) rfl) (And.intro ((HR.out.keep hb).cell (i := 1) (v := .int .i64 r.n) rfl) ((HR.out.keep hb).cell (i := 2) (v := .slice RA r.args.length rc) rfl))))))
  have HX := Lib.hid (Bel.rfl_ w1)
  clear HQ HR
  obtain ⟨q0, q1, q2, r0, r1, r2⟩ := HC.out _ HX.out
  go_wp2_with fail
  refine (holdsH_any 13 0 [q, r] _ _ l _ (asks_two (Blk.new _ _ _) (HQS.out.keep ((HB.out.tr HX.out).al _)) (HRS.out.keep ((HB.out.tr HX.out).al _))) (HV.out.keep ((HB.out.tr HX.out).al _)) hl).mono ?_
  rintro e w2 ⟨u, rfl, hs, hb⟩
  obtain ⟨AA, ac, rfl, -⟩ := id hs
  have hbx : Bel w1 w2 := ((Bel.rfl_ w1).al _).tr hb
  replace HX := Lib.hid (HX.out.tr hbx)
  have HSA := Lib.hid hs
  clear hs hb hbx q0 q1 q2 r0 r1 r2
  obtain ⟨q0, q1, q2, r0, r1, r2⟩ := HC.out _ HX.out
  go_wp2_with fail
  refine (holdsH_any 9 0 [q, q] _ _ l _ (asks_two (Blk.new _ _ _) (HQS.out.keep ((HB.out.tr HX.out).al _)) (HQS.out.keep ((HB.out.tr HX.out).al _))) (HV.out.keep ((HB.out.tr HX.out).al _)) hl).mono ?_
  rintro e w3 ⟨u, rfl, hs, hb⟩
  obtain ⟨XA, xc, rfl, -⟩ := id hs
  have hbx : Bel w2 w3 := ((Bel.rfl_ w2).al _).tr hb
  replace HX := Lib.hid (HX.out.tr hbx)
  replace HSA := Lib.hid (HSA.out.keep hbx)
  have HSX := Lib.hid hs
  clear hs hb hbx q0 q1 q2 r0 r1 r2
  obtain ⟨q0, q1, q2, r0, r1, r2⟩ := HC.out _ HX.out
  go_wp2_with fail
  refine (holdsH_any 9 0 [r, r] _ _ l _ (asks_two (Blk.new _ _ _) (HRS.out.keep ((HB.out.tr HX.out).al _)) (HRS.out.keep ((HB.out.tr HX.out).al _))) (HV.out.keep ((HB.out.tr HX.out).al _)) hl).mono ?_
  rintro e w4 ⟨u, rfl, hs, hb⟩
  obtain ⟨YA, yc, rfl, -⟩ := id hs
  have hbx : Bel w3 w4 := ((Bel.rfl_ w3).al _).tr hb
  replace HX := Lib.hid (HX.out.tr hbx)
  replace HSA := Lib.hid (HSA.out.keep hbx)
  replace HSX := Lib.hid (HSX.out.keep hbx)
  have HSY := Lib.hid hs
  clear hs hb hbx q0 q1 q2 r0 r1 r2
  by_cases heA : holdErr (.mk 13 0 [q, r]) l.length = 0
  rotate_left
  · rw [decide_eq_false heA]
    go_wp2
    go_ret
    exact ⟨rfl, HB.out.tr HX.out⟩
  rw [decide_eq_true heA]
  rw [holdL_of heA, holds_len (by decide)] at HSA
  rw [holdL_of heA, holds_len (by decide)]
  by_cases heX : holdErr (.mk 9 0 [q, q]) l.length = 0
  rotate_left
  · rw [decide_eq_false heX]
    go_wp2
    go_ret
    exact ⟨rfl, HB.out.tr HX.out⟩
  rw [decide_eq_true heX]
  rw [holdL_of heX, holds_len (by decide)] at HSX
  rw [holdL_of heX, holds_len (by decide)]
  by_cases heY : holdErr (.mk 9 0 [r, r]) l.length = 0
  rotate_left
  · rw [decide_eq_false heY]
    go_wp2
    go_ret
    exact ⟨rfl, HB.out.tr HX.out⟩
  rw [decide_eq_true heY]
  rw [holdL_of heY, holds_len (by decide)] at HSY
  rw [holdL_of heY, holds_len (by decide)]
  have HN := Lib.hid (holdErr_zero heA).2
  have HLA := Lib.hid (holds_len (k := 13) (n := 0) (args := [q, r]) (l := l) (by decide))
  have HLX := Lib.hid (holds_len (k := 9) (n := 0) (args := [q, q]) (l := l) (by decide))
  have HLY := Lib.hid (holds_len (k := 9) (n := 0) (args := [r, r]) (l := l) (by decide))
  have HL0 := Lib.hid (fun (h : 0 < l.length) => (since_zero q r h).trans (or_same r h).symm)
  have HL1 : Hid (∀ i, i + 1 < l.length → bg ((Ask.mk 13 0 [q, r]).holds l) (i + 1) = (bg ((Ask.mk 9 0 [r, r]).holds l) (i + 1) || (bg ((Ask.mk 13 0 [q, r]).holds l) i && bg ((Ask.mk 9 0 [q, q]).holds l) (i + 1)))) :=
    Lib.hid fun i h => by rw [since_succ q r h, or_same r h, or_same q h]
  have HTK : Hid (∀ c, c ≤ l.length → q.looks = false → r.looks = false → holdL (.mk 13 0 [q, r]) (l.take c) = ((Ask.mk 13 0 [q, r]).holds l).take c ∧ holdErr (.mk 13 0 [q, r]) (l.take c).length = 0) :=
    Lib.hid fun c hc h1 h2 => by
      have he := err_two (m' := (l.take c).length) heA (by rw [List.length_take]; omega)
      exact ⟨(holdL_of he).trans (holds_take hc _ (by rw [Ask.looks, looksL, looksL, looksL, h1, h2]; rfl)), he⟩
  generalize (Ask.mk 13 0 [q, r]).holds l = AL at *
  generalize (Ask.mk 9 0 [q, q]).holds l = XL at *
  generalize (Ask.mk 9 0 [r, r]).holds l = YL at *
  clear heA heX heY
  have HZ := Lib.hid (Bel.rfl_ w4)
  have hlen : l.length ≤ 4000 := HN.out
  go_wp2
  go_loopw [15] (fun t wr => ∃ j : Nat, j ≤ l.length ∧ t = .int .i64 j ∧ Hid (Bel w4 wr)) (fun t _ => l.length - (intOf t).toNat)
  case atStart => exact ⟨0, by omega, rfl, HZ⟩
  case round =>
    obtain ⟨j, hj, rfl, HY⟩ := hrel
    clear HZ
    by_cases hlt : j < l.length
    · have hd : decide ((j : Int) < l.length) = true := decide_eq_true (by omega)
      have i0 : (0 : Int) ≤ j := by omega
      have i1 : (j : Int) < l.length := by omega
      obtain ⟨ya, hya, ey⟩ := bg_get (l := YL) (i := j) (by rw [HLY.out]; exact hlt)
      obtain ⟨gy, oy, rfl, zy⟩ := bool_cells HSY.out hya
      obtain ⟨aa, haa, ea⟩ := bg_get (l := AL) (i := j) (by rw [HLA.out]; exact hlt)
      obtain ⟨ga, oa, rfl, za⟩ := bool_cells HSA.out haa
      have zy := HY.out.cell zy
      have za := HY.out.cell za
      clear hya haa
      cases j with
      | zero =>
        obtain rfl : aa = ya := by rw [← ea, ← ey, HL0.out hlt]
        rw [Nat.add_zero] at zy za
        have i2 : (0 : Int) < l.length := by omega
        have i3 : 0 < l.length := hlt
        rw [Int.natCast_zero] at hd i0 i1 ⊢
        clear HC HL0 HL1 HTK HSA HSX HSY ea ey
        cases aa with
        | true =>
          go_wp2
          go_roundw
          case rel => exact ⟨1, by omega, by go_num, HY⟩
          case measure => simp [intOf]; omega
        | false =>
          go_wp2
          go_roundw
          case rel => exact ⟨1, by omega, by go_num, HY⟩
          case measure => simp [intOf]; omega
      | succ i =>
        obtain ⟨xa, hxa, ex⟩ := bg_get (l := XL) (i := i + 1) (by rw [HLX.out]; exact hlt)
        obtain ⟨gx, ox, rfl, zx⟩ := bool_cells HSX.out hxa
        obtain ⟨pa, hpa, ep⟩ := bg_get (l := AL) (i := i) (by rw [HLA.out]; omega)
        obtain ⟨ga', oa', e', zp⟩ := bool_cells HSA.out hpa
        injection e' with e'
        injection e' with e1 e2
        subst e1
        subst e2
        have zx := HY.out.cell zx
        have zp := HY.out.cell zp
        obtain rfl : aa = (ya || (pa && xa)) := by rw [← ea, ← ey, ← ep, ← ex, HL1.out i hlt]
        have hvi : ((i + 1 : Nat) : Int) - 1 = i := by omega
        have hgt : decide ((0 : Int) < ((i + 1 : Nat) : Int)) = true := decide_eq_true (by omega)
        have i2 : (0 : Int) ≤ i := by omega
        have i3 : (i : Int) < l.length := by omega
        clear HC HL0 HL1 HTK HSA HSX HSY ea ey ep ex hxa hpa
        cases ya with
        | true =>
          go_wp2
          go_roundw
          case rel => exact ⟨i + 1 + 1, by omega, by go_num, HY⟩
          case measure => simp [intOf]; omega
        | false =>
          cases pa with
          | false =>
            go_wp2
            go_roundw
            case rel => exact ⟨i + 1 + 1, by omega, by go_num, HY⟩
            case measure => simp [intOf]; omega
          | true =>
            cases xa with
            | true =>
              go_wp2
              go_roundw
              case rel => exact ⟨i + 1 + 1, by omega, by go_num, HY⟩
              case measure => simp [intOf]; omega
            | false =>
              go_wp2
              go_roundw
              case rel => exact ⟨i + 1 + 1, by omega, by go_num, HY⟩
              case measure => simp [intOf]; omega
    · obtain rfl : j = l.length := by omega
      have hd : decide ((l.length : Int) < l.length) = false := decide_eq_false (by omega)
      clear HL0 HL1 HLX HLY HSX HSY
      replace HX := Lib.hid (HX.out.tr HY.out)
      replace HSA := Lib.hid (HSA.out.keep HY.out)
      clear HY
      obtain ⟨q0, q1, q2, r0, r1, r2⟩ := HC.out _ HX.out
      go_wp2_with fail
      refine (holds_any (.mk 11 0 [q]) _ _ l _ ⟨_, rfl, asks_own (Blk.new _ _ _) (HQS.out.keep ((HB.out.tr HX.out).al _))⟩ (HV.out.keep ((HB.out.tr HX.out).al _)) (by unfold ok64; omega)).mono ?_
      rintro e w5 ⟨u, rfl, hs, hb⟩
      have hsl := hs.sl
      obtain ⟨OA, oc, rfl, -⟩ := id hsl
      have hbx : Bel wr w5 := ((Bel.rfl_ wr).al _).tr hb
      replace HX := Lib.hid (HX.out.tr hbx)
      replace HSA := Lib.hid (HSA.out.keep hbx)
      have HSO := Lib.hid hsl
      clear hs hb hbx hsl q0 q1 q2 r0 r1 r2
      obtain ⟨q0, q1, q2, r0, r1, r2⟩ := HC.out _ HX.out
      go_wp2_with fail
      refine (holds_any (.mk 7 0 [.mk 12 0 [.mk 7 0 [q]]]) _ _ l _ (asks_three w5 q _ _ (HQS.out.keep (HB.out.tr HX.out))) (HV.out.keep ((((HB.out.tr HX.out).al _).al _).al _)) (by unfold ok64; omega)).mono ?_
      rintro e w6 ⟨u, rfl, hs, hb⟩
      have hsl := hs.sl
      obtain ⟨NA, nc, rfl, -⟩ := id hsl
      have hbx : Bel w5 w6 := ((((Bel.rfl_ w5).al _).al _).al _).tr hb
      replace HX := Lib.hid (HX.out.tr hbx)
      replace HSA := Lib.hid (HSA.out.keep hbx)
      replace HSO := Lib.hid (HSO.out.keep hbx)
      have HSN := Lib.hid hsl
      clear hs hb hbx hsl q0 q1 q2 r0 r1 r2
      by_cases hf : holdErr (.mk 7 0 [.mk 12 0 [.mk 7 0 [q]]]) l.length = 0
      · have ho := once_err hf
        have hol : holdL (.mk 7 0 [.mk 12 0 [.mk 7 0 [q]]]) l = holdL (.mk 11 0 [q]) l := by rw [holdL_of hf, holdL_of ho, once_all]
        rw [hol] at HSN ⊢
        rw [hf, ho]
        have HSB := Lib.hid (sameBools_any _ _ _ w6 HSO.out HSN.out (by have := (holdL_length (.mk 11 0 [q]) l).1; omega))
        clear hf ho hol HSN HSO
        go_wp2_with fail
        refine HSB.out.mono ?_
        rintro e w7 ⟨rfl, hb⟩
        replace HX := Lib.hid (HX.out.tr hb)
        replace HSA := Lib.hid (HSA.out.keep hb)
        clear hb HSB
        by_cases hc0 : cut < 0
        · have d0 : decide (cut < 0) = true := decide_eq_true hc0
          go_wp2
          go_ret
          exact ⟨rfl, HB.out.tr HX.out⟩
        have d0 : decide (cut < 0) = false := decide_eq_false hc0
        by_cases hc1 : (l.length : Int) < cut
        · have d1 : decide ((l.length : Int) < cut) = true := decide_eq_true hc1
          go_wp2
          go_ret
          exact ⟨rfl, HB.out.tr HX.out⟩
        have d1 : decide ((l.length : Int) < cut) = false := decide_eq_false hc1
        obtain ⟨q0, q1, q2, r0, r1, r2⟩ := HC.out _ HX.out
        go_wp2_with fail
        refine (looksOn_any q _ _ ⟨_, rfl, HQS.out.keep (HB.out.tr HX.out)⟩).mono ?_
        rintro e w8 ⟨rfl, hb⟩
        replace HX := Lib.hid (HX.out.tr hb)
        replace HSA := Lib.hid (HSA.out.keep hb)
        clear hb q0 q1 q2 r0 r1 r2
        generalize q.looks = b1 at *
        cases b1 with
        | true =>
          go_wp2
          go_ret
          exact ⟨rfl, HB.out.tr HX.out⟩
        | false =>
          obtain ⟨q0, q1, q2, r0, r1, r2⟩ := HC.out _ HX.out
          go_wp2_with fail
          refine (looksOn_any r _ _ ⟨_, rfl, HRS.out.keep (HB.out.tr HX.out)⟩).mono ?_
          rintro e w9 ⟨rfl, hb⟩
          replace HX := Lib.hid (HX.out.tr hb)
          replace HSA := Lib.hid (HSA.out.keep hb)
          clear hb q0 q1 q2 r0 r1 r2
          generalize r.looks = b2 at *
          cases b2 with
          | true =>
            go_wp2
            go_ret
            exact ⟨rfl, HB.out.tr HX.out⟩
          | false =>
            obtain ⟨c, rfl⟩ : ∃ c : Nat, cut = c := ⟨cut.toNat, by omega⟩
            have hcl : c ≤ l.length := by omega
            obtain ⟨htk, hte⟩ := HTK.out c hcl (by simp) (by simp)
            clear HTK
            obtain ⟨q0, q1, q2, r0, r1, r2⟩ := HC.out _ HX.out
            obtain ⟨hsc, hac⟩ := sl_take (c := c) HSA.out (by rw [HLA.out]; exact hcl)
            have HSC := Lib.hid hsc
            have HLC := Lib.hid (sl_take HV.out hcl).1
            rw [HLA.out] at hac
            have hca : c ≤ ac := by omega
            have htl : (l.take c).length = c := by rw [List.length_take]; omega
            have htb : (AL.take c).length = c := by rw [List.length_take, HLA.out]; omega
            have HTE := Lib.hid hte
            have HTKL := Lib.hid htk
            have HBT := Lib.hid htb
            have hl2 : (l.take c).length * 48 ≤ 140737488351232 := by omega
            clear hsc hte htk htb htl hac
            go_upto_region 20 with fail
            refine wp_region_any (by kernel_rfl) ?_
            try (change wpAny _ _ _ _ _ _ _ (World.drew _))
            refine wpAny_take (i := 0) (v := .slice LA l.length lc) rfl (by kernel_rfl) (by kernel_rfl) (by kernel_rfl) (fun _ _ _ h => h) (Or.inl ⟨by kernel_rfl, fun w => by kernel_rfl⟩) ?_
            refine wpAny_take (i := 1) (v := .int .i64 c) rfl (by kernel_rfl) (by kernel_rfl) (by kernel_rfl) (fun _ _ _ h => h) (Or.inl ⟨by kernel_rfl, fun w => by kernel_rfl⟩) ?_
            refine wpAny_take (i := 2) (v := .slice LA c lc) rfl (by kernel_rfl) (by kernel_rfl) (by kernel_rfl) (fun _ _ _ h => h) (Or.inl ⟨by kernel_rfl, ?_⟩) ?_
            · intro w
              go_simp
              intro h
              omega
            refine wpAny_ready (rs := [3, 4]) (by kernel_rfl) (by simp) ?_
            refine AllReady.cons (o := { dst := some 143, op := Op.load 24 (Operand.tmp 4), type := 24, pos := "ask.go:294", after := #[], guard := none }) rfl (fun K hK => ?_) (AllReady.cons (o := { dst := some 144, op := Op.load 24 (Operand.tmp 5), type := 24, pos := "ask.go:294", after := #[], guard := none }) rfl (fun K hK => ?_) AllReady.nil)
            · go_simp
              try (refine hK _ _ ?_; clear hK K)
              refine wpAny_ready (rs := [4]) (by kernel_rfl) (by simp) ?_
              refine AllReady.cons (o := { dst := some 144, op := Op.load 24 (Operand.tmp 5), type := 24, pos := "ask.go:294", after := #[], guard := none }) rfl (fun K hK => ?_) AllReady.nil
              go_simp
              try (refine hK _ _ ?_; clear hK K)
              refine wpAny_ready (rs := [5]) (by kernel_rfl) (by simp) ?_
              refine AllReady.cons (o := { dst := some 145, op := Op.buildSlice 22 2 #[(0, Operand.tmp 143), (1, Operand.tmp 144)], type := 22, pos := "ask.go:294", after := #[{ on := 3, ground := Ground.data }, { on := 4, ground := Ground.data }], guard := none }) rfl (fun K hK => ?_) AllReady.nil
              go_simp
              try (refine hK _ _ ?_; clear hK K)
              refine wpAny_ready (rs := [6]) (by kernel_rfl) (by simp) ?_
              refine AllReady.cons (o := { dst := some 146, op := Op.call { callee := Callee.value (Operand.func 19), args := #[Operand.const (Value.int IntKind.i64 13), Operand.const (Value.int IntKind.i64 0), Operand.tmp 142, Operand.tmp 145], argTypes := #[3, 3, 37, 22] }, type := 44, pos := "ask.go:294", after := #[{ on := 2, ground := Ground.data }, { on := 5, ground := Ground.data }], guard := none }) rfl (fun K hK => ?_) AllReady.nil
              go_simp
              go_at_call 19
              refine (holdsH_any 13 0 [q, r] _ _ (l.take c) _ (asks_two ((Blk.new _ _ _).keep (Bel.dr (Bel.rfl_ _))) (HQS.out.keep (((HB.out.tr HX.out).al _).dr)) (HRS.out.keep (((HB.out.tr HX.out).al _).dr))) (HLC.out.keep (((HB.out.tr HX.out).al _).dr)) hl2).mono ?_
              rintro e w10 ⟨u, rfl, hs, hb⟩
              rw [HTKL.out] at hs
              rw [HTE.out]
              obtain ⟨BA, bc, rfl, -⟩ := id hs
              rw [HBT.out] at hs ⊢
              have HSB := Lib.hid hs
              have hbx : Bel w9 w10 := (((Bel.rfl_ w9).al _).dr).tr hb
              replace HX := Lib.hid (HX.out.tr hbx)
              replace HSC := Lib.hid (HSC.out.keep hbx)
              clear hs hb hbx q0 q1 q2 r0 r1 r2
              try go_simp
              try (refine hK _ _ ?_; clear hK K)
              refine wpAny_take (i := 7) (v := .tuple #[.slice BA c bc, .bool true]) rfl (by kernel_rfl) (by kernel_rfl) (by kernel_rfl) (fun _ _ _ h => h) (Or.inl ⟨by kernel_rfl, fun w => by kernel_rfl⟩) ?_
              refine wpAny_take (i := 8) (v := .slice BA c bc) rfl (by kernel_rfl) (by kernel_rfl) (by kernel_rfl) (fun _ _ _ h => h) (Or.inl ⟨by kernel_rfl, fun w => by kernel_rfl⟩) ?_
              refine wpAny_take (i := 9) (v := .bool true) rfl (by kernel_rfl) (by kernel_rfl) (by kernel_rfl) (fun _ _ _ h => h) (Or.inl ⟨by kernel_rfl, fun w => by kernel_rfl⟩) ?_
              refine wpAny_take (i := 10) (v := .slice BA c bc) rfl (by kernel_rfl) (by kernel_rfl) (by kernel_rfl) (fun _ _ _ h => h) (Or.inl ⟨by kernel_rfl, fun w => by kernel_rfl⟩) ?_
              refine wpAny_take (i := 11) (v := .bool true) rfl (by kernel_rfl) (by kernel_rfl) (by kernel_rfl) (fun _ _ _ h => h) (Or.inl ⟨by kernel_rfl, fun w => by kernel_rfl⟩) ?_
              refine wpAny_done (by kernel_rfl) ?_ _
              go_simp
              go_wp2_with fail
              refine (sameBools_any (AL.take c) _ _ _ HSB.out HSC.out (by rw [HBT.out]; omega)).mono ?_
              rintro e w11 ⟨rfl, hb⟩
              replace HX := Lib.hid (HX.out.tr hb)
              clear hb
              go_wp2
              go_ret
              exact ⟨rfl, HB.out.tr HX.out⟩
            · go_simp
              try (refine hK _ _ ?_; clear hK K)
              refine wpAny_ready (rs := [3]) (by kernel_rfl) (by simp) ?_
              refine AllReady.cons (o := { dst := some 143, op := Op.load 24 (Operand.tmp 4), type := 24, pos := "ask.go:294", after := #[], guard := none }) rfl (fun K hK => ?_) AllReady.nil
              go_simp
              try (refine hK _ _ ?_; clear hK K)
              refine wpAny_ready (rs := [5]) (by kernel_rfl) (by simp) ?_
              refine AllReady.cons (o := { dst := some 145, op := Op.buildSlice 22 2 #[(0, Operand.tmp 143), (1, Operand.tmp 144)], type := 22, pos := "ask.go:294", after := #[{ on := 3, ground := Ground.data }, { on := 4, ground := Ground.data }], guard := none }) rfl (fun K hK => ?_) AllReady.nil
              go_simp
              try (refine hK _ _ ?_; clear hK K)
              refine wpAny_ready (rs := [6]) (by kernel_rfl) (by simp) ?_
              refine AllReady.cons (o := { dst := some 146, op := Op.call { callee := Callee.value (Operand.func 19), args := #[Operand.const (Value.int IntKind.i64 13), Operand.const (Value.int IntKind.i64 0), Operand.tmp 142, Operand.tmp 145], argTypes := #[3, 3, 37, 22] }, type := 44, pos := "ask.go:294", after := #[{ on := 2, ground := Ground.data }, { on := 5, ground := Ground.data }], guard := none }) rfl (fun K hK => ?_) AllReady.nil
              go_simp
              go_at_call 19
              refine (holdsH_any 13 0 [q, r] _ _ (l.take c) _ (asks_two ((Blk.new _ _ _).keep (Bel.dr (Bel.rfl_ _))) (HQS.out.keep (((HB.out.tr HX.out).al _).dr)) (HRS.out.keep (((HB.out.tr HX.out).al _).dr))) (HLC.out.keep (((HB.out.tr HX.out).al _).dr)) hl2).mono ?_
              rintro e w10 ⟨u, rfl, hs, hb⟩
              rw [HTKL.out] at hs
              rw [HTE.out]
              obtain ⟨BA, bc, rfl, -⟩ := id hs
              rw [HBT.out] at hs ⊢
              have HSB := Lib.hid hs
              have hbx : Bel w9 w10 := (((Bel.rfl_ w9).al _).dr).tr hb
              replace HX := Lib.hid (HX.out.tr hbx)
              replace HSC := Lib.hid (HSC.out.keep hbx)
              clear hs hb hbx q0 q1 q2 r0 r1 r2
              try go_simp
              try (refine hK _ _ ?_; clear hK K)
              refine wpAny_take (i := 7) (v := .tuple #[.slice BA c bc, .bool true]) rfl (by kernel_rfl) (by kernel_rfl) (by kernel_rfl) (fun _ _ _ h => h) (Or.inl ⟨by kernel_rfl, fun w => by kernel_rfl⟩) ?_
              refine wpAny_take (i := 8) (v := .slice BA c bc) rfl (by kernel_rfl) (by kernel_rfl) (by kernel_rfl) (fun _ _ _ h => h) (Or.inl ⟨by kernel_rfl, fun w => by kernel_rfl⟩) ?_
              refine wpAny_take (i := 9) (v := .bool true) rfl (by kernel_rfl) (by kernel_rfl) (by kernel_rfl) (fun _ _ _ h => h) (Or.inl ⟨by kernel_rfl, fun w => by kernel_rfl⟩) ?_
              refine wpAny_take (i := 10) (v := .slice BA c bc) rfl (by kernel_rfl) (by kernel_rfl) (by kernel_rfl) (fun _ _ _ h => h) (Or.inl ⟨by kernel_rfl, fun w => by kernel_rfl⟩) ?_
              refine wpAny_take (i := 11) (v := .bool true) rfl (by kernel_rfl) (by kernel_rfl) (by kernel_rfl) (fun _ _ _ h => h) (Or.inl ⟨by kernel_rfl, fun w => by kernel_rfl⟩) ?_
              refine wpAny_done (by kernel_rfl) ?_ _
              go_simp
              go_wp2_with fail
              refine (sameBools_any (AL.take c) _ _ _ HSB.out HSC.out (by rw [HBT.out]; omega)).mono ?_
              rintro e w11 ⟨rfl, hb⟩
              replace HX := Lib.hid (HX.out.tr hb)
              clear hb
              go_wp2
              go_ret
              exact ⟨rfl, HB.out.tr HX.out⟩
      · have hf' : (holdErr (.mk 7 0 [.mk 12 0 [.mk 7 0 [q]]]) l.length == 0) = false := by simpa using hf
        generalize holdErr (.mk 7 0 [.mk 12 0 [.mk 7 0 [q]]]) l.length = EN at *
        clear hf HSN HSO
        by_cases hc0 : cut < 0
        · have d0 : decide (cut < 0) = true := decide_eq_true hc0
          go_wp2
          go_ret
          exact ⟨rfl, HB.out.tr HX.out⟩
        have d0 : decide (cut < 0) = false := decide_eq_false hc0
        by_cases hc1 : (l.length : Int) < cut
        · have d1 : decide ((l.length : Int) < cut) = true := decide_eq_true hc1
          go_wp2
          go_ret
          exact ⟨rfl, HB.out.tr HX.out⟩
        have d1 : decide ((l.length : Int) < cut) = false := decide_eq_false hc1
        obtain ⟨q0, q1, q2, r0, r1, r2⟩ := HC.out _ HX.out
        go_wp2_with fail
        refine (looksOn_any q _ _ ⟨_, rfl, HQS.out.keep (HB.out.tr HX.out)⟩).mono ?_
        rintro e w8 ⟨rfl, hb⟩
        replace HX := Lib.hid (HX.out.tr hb)
        replace HSA := Lib.hid (HSA.out.keep hb)
        clear hb q0 q1 q2 r0 r1 r2
        generalize q.looks = b1 at *
        cases b1 with
        | true =>
          go_wp2
          go_ret
          exact ⟨rfl, HB.out.tr HX.out⟩
        | false =>
          obtain ⟨q0, q1, q2, r0, r1, r2⟩ := HC.out _ HX.out
          go_wp2_with fail
          refine (looksOn_any r _ _ ⟨_, rfl, HRS.out.keep (HB.out.tr HX.out)⟩).mono ?_
          rintro e w9 ⟨rfl, hb⟩
          replace HX := Lib.hid (HX.out.tr hb)
          replace HSA := Lib.hid (HSA.out.keep hb)
          clear hb q0 q1 q2 r0 r1 r2
          generalize r.looks = b2 at *
          cases b2 with
          | true =>
            go_wp2
            go_ret
            exact ⟨rfl, HB.out.tr HX.out⟩
          | false =>
            obtain ⟨c, rfl⟩ : ∃ c : Nat, cut = c := ⟨cut.toNat, by omega⟩
            have hcl : c ≤ l.length := by omega
            obtain ⟨htk, hte⟩ := HTK.out c hcl (by simp) (by simp)
            clear HTK
            obtain ⟨q0, q1, q2, r0, r1, r2⟩ := HC.out _ HX.out
            obtain ⟨hsc, hac⟩ := sl_take (c := c) HSA.out (by rw [HLA.out]; exact hcl)
            have HSC := Lib.hid hsc
            have HLC := Lib.hid (sl_take HV.out hcl).1
            rw [HLA.out] at hac
            have hca : c ≤ ac := by omega
            have htl : (l.take c).length = c := by rw [List.length_take]; omega
            have htb : (AL.take c).length = c := by rw [List.length_take, HLA.out]; omega
            have HTE := Lib.hid hte
            have HTKL := Lib.hid htk
            have HBT := Lib.hid htb
            have hl2 : (l.take c).length * 48 ≤ 140737488351232 := by omega
            clear hsc hte htk htb htl hac
            go_upto_region 20 with fail
            refine wp_region_any (by kernel_rfl) ?_
            try (change wpAny _ _ _ _ _ _ _ (World.drew _))
            refine wpAny_take (i := 0) (v := .slice LA l.length lc) rfl (by kernel_rfl) (by kernel_rfl) (by kernel_rfl) (fun _ _ _ h => h) (Or.inl ⟨by kernel_rfl, fun w => by kernel_rfl⟩) ?_
            refine wpAny_take (i := 1) (v := .int .i64 c) rfl (by kernel_rfl) (by kernel_rfl) (by kernel_rfl) (fun _ _ _ h => h) (Or.inl ⟨by kernel_rfl, fun w => by kernel_rfl⟩) ?_
            refine wpAny_take (i := 2) (v := .slice LA c lc) rfl (by kernel_rfl) (by kernel_rfl) (by kernel_rfl) (fun _ _ _ h => h) (Or.inl ⟨by kernel_rfl, ?_⟩) ?_
            · intro w
              go_simp
              intro h
              omega
            refine wpAny_ready (rs := [3, 4]) (by kernel_rfl) (by simp) ?_
            refine AllReady.cons (o := { dst := some 143, op := Op.load 24 (Operand.tmp 4), type := 24, pos := "ask.go:294", after := #[], guard := none }) rfl (fun K hK => ?_) (AllReady.cons (o := { dst := some 144, op := Op.load 24 (Operand.tmp 5), type := 24, pos := "ask.go:294", after := #[], guard := none }) rfl (fun K hK => ?_) AllReady.nil)
            · go_simp
              try (refine hK _ _ ?_; clear hK K)
              refine wpAny_ready (rs := [4]) (by kernel_rfl) (by simp) ?_
              refine AllReady.cons (o := { dst := some 144, op := Op.load 24 (Operand.tmp 5), type := 24, pos := "ask.go:294", after := #[], guard := none }) rfl (fun K hK => ?_) AllReady.nil
              go_simp
              try (refine hK _ _ ?_; clear hK K)
              refine wpAny_ready (rs := [5]) (by kernel_rfl) (by simp) ?_
              refine AllReady.cons (o := { dst := some 145, op := Op.buildSlice 22 2 #[(0, Operand.tmp 143), (1, Operand.tmp 144)], type := 22, pos := "ask.go:294", after := #[{ on := 3, ground := Ground.data }, { on := 4, ground := Ground.data }], guard := none }) rfl (fun K hK => ?_) AllReady.nil
              go_simp
              try (refine hK _ _ ?_; clear hK K)
              refine wpAny_ready (rs := [6]) (by kernel_rfl) (by simp) ?_
              refine AllReady.cons (o := { dst := some 146, op := Op.call { callee := Callee.value (Operand.func 19), args := #[Operand.const (Value.int IntKind.i64 13), Operand.const (Value.int IntKind.i64 0), Operand.tmp 142, Operand.tmp 145], argTypes := #[3, 3, 37, 22] }, type := 44, pos := "ask.go:294", after := #[{ on := 2, ground := Ground.data }, { on := 5, ground := Ground.data }], guard := none }) rfl (fun K hK => ?_) AllReady.nil
              go_simp
              go_at_call 19
              refine (holdsH_any 13 0 [q, r] _ _ (l.take c) _ (asks_two ((Blk.new _ _ _).keep (Bel.dr (Bel.rfl_ _))) (HQS.out.keep (((HB.out.tr HX.out).al _).dr)) (HRS.out.keep (((HB.out.tr HX.out).al _).dr))) (HLC.out.keep (((HB.out.tr HX.out).al _).dr)) hl2).mono ?_
              rintro e w10 ⟨u, rfl, hs, hb⟩
              rw [HTKL.out] at hs
              rw [HTE.out]
              obtain ⟨BA, bc, rfl, -⟩ := id hs
              rw [HBT.out] at hs ⊢
              have HSB := Lib.hid hs
              have hbx : Bel w9 w10 := (((Bel.rfl_ w9).al _).dr).tr hb
              replace HX := Lib.hid (HX.out.tr hbx)
              replace HSC := Lib.hid (HSC.out.keep hbx)
              clear hs hb hbx q0 q1 q2 r0 r1 r2
              try go_simp
              try (refine hK _ _ ?_; clear hK K)
              refine wpAny_take (i := 7) (v := .tuple #[.slice BA c bc, .bool true]) rfl (by kernel_rfl) (by kernel_rfl) (by kernel_rfl) (fun _ _ _ h => h) (Or.inl ⟨by kernel_rfl, fun w => by kernel_rfl⟩) ?_
              refine wpAny_take (i := 8) (v := .slice BA c bc) rfl (by kernel_rfl) (by kernel_rfl) (by kernel_rfl) (fun _ _ _ h => h) (Or.inl ⟨by kernel_rfl, fun w => by kernel_rfl⟩) ?_
              refine wpAny_take (i := 9) (v := .bool true) rfl (by kernel_rfl) (by kernel_rfl) (by kernel_rfl) (fun _ _ _ h => h) (Or.inl ⟨by kernel_rfl, fun w => by kernel_rfl⟩) ?_
              refine wpAny_take (i := 10) (v := .slice BA c bc) rfl (by kernel_rfl) (by kernel_rfl) (by kernel_rfl) (fun _ _ _ h => h) (Or.inl ⟨by kernel_rfl, fun w => by kernel_rfl⟩) ?_
              refine wpAny_take (i := 11) (v := .bool true) rfl (by kernel_rfl) (by kernel_rfl) (by kernel_rfl) (fun _ _ _ h => h) (Or.inl ⟨by kernel_rfl, fun w => by kernel_rfl⟩) ?_
              refine wpAny_done (by kernel_rfl) ?_ _
              go_simp
              go_wp2_with fail
              refine (sameBools_any (AL.take c) _ _ _ HSB.out HSC.out (by rw [HBT.out]; omega)).mono ?_
              rintro e w11 ⟨rfl, hb⟩
              replace HX := Lib.hid (HX.out.tr hb)
              clear hb
              go_wp2
              go_ret
              exact ⟨rfl, HB.out.tr HX.out⟩
            · go_simp
              try (refine hK _ _ ?_; clear hK K)
              refine wpAny_ready (rs := [3]) (by kernel_rfl) (by simp) ?_
              refine AllReady.cons (o := { dst := some 143, op := Op.load 24 (Operand.tmp 4), type := 24, pos := "ask.go:294", after := #[], guard := none }) rfl (fun K hK => ?_) AllReady.nil
              go_simp
              try (refine hK _ _ ?_; clear hK K)
              refine wpAny_ready (rs := [5]) (by kernel_rfl) (by simp) ?_
              refine AllReady.cons (o := { dst := some 145, op := Op.buildSlice 22 2 #[(0, Operand.tmp 143), (1, Operand.tmp 144)], type := 22, pos := "ask.go:294", after := #[{ on := 3, ground := Ground.data }, { on := 4, ground := Ground.data }], guard := none }) rfl (fun K hK => ?_) AllReady.nil
              go_simp
              try (refine hK _ _ ?_; clear hK K)
              refine wpAny_ready (rs := [6]) (by kernel_rfl) (by simp) ?_
              refine AllReady.cons (o := { dst := some 146, op := Op.call { callee := Callee.value (Operand.func 19), args := #[Operand.const (Value.int IntKind.i64 13), Operand.const (Value.int IntKind.i64 0), Operand.tmp 142, Operand.tmp 145], argTypes := #[3, 3, 37, 22] }, type := 44, pos := "ask.go:294", after := #[{ on := 2, ground := Ground.data }, { on := 5, ground := Ground.data }], guard := none }) rfl (fun K hK => ?_) AllReady.nil
              go_simp
              go_at_call 19
              refine (holdsH_any 13 0 [q, r] _ _ (l.take c) _ (asks_two ((Blk.new _ _ _).keep (Bel.dr (Bel.rfl_ _))) (HQS.out.keep (((HB.out.tr HX.out).al _).dr)) (HRS.out.keep (((HB.out.tr HX.out).al _).dr))) (HLC.out.keep (((HB.out.tr HX.out).al _).dr)) hl2).mono ?_
              rintro e w10 ⟨u, rfl, hs, hb⟩
              rw [HTKL.out] at hs
              rw [HTE.out]
              obtain ⟨BA, bc, rfl, -⟩ := id hs
              rw [HBT.out] at hs ⊢
              have HSB := Lib.hid hs
              have hbx : Bel w9 w10 := (((Bel.rfl_ w9).al _).dr).tr hb
              replace HX := Lib.hid (HX.out.tr hbx)
              replace HSC := Lib.hid (HSC.out.keep hbx)
              clear hs hb hbx q0 q1 q2 r0 r1 r2
              try go_simp
              try (refine hK _ _ ?_; clear hK K)
              refine wpAny_take (i := 7) (v := .tuple #[.slice BA c bc, .bool true]) rfl (by kernel_rfl) (by kernel_rfl) (by kernel_rfl) (fun _ _ _ h => h) (Or.inl ⟨by kernel_rfl, fun w => by kernel_rfl⟩) ?_
              refine wpAny_take (i := 8) (v := .slice BA c bc) rfl (by kernel_rfl) (by kernel_rfl) (by kernel_rfl) (fun _ _ _ h => h) (Or.inl ⟨by kernel_rfl, fun w => by kernel_rfl⟩) ?_
              refine wpAny_take (i := 9) (v := .bool true) rfl (by kernel_rfl) (by kernel_rfl) (by kernel_rfl) (fun _ _ _ h => h) (Or.inl ⟨by kernel_rfl, fun w => by kernel_rfl⟩) ?_
              refine wpAny_take (i := 10) (v := .slice BA c bc) rfl (by kernel_rfl) (by kernel_rfl) (by kernel_rfl) (fun _ _ _ h => h) (Or.inl ⟨by kernel_rfl, fun w => by kernel_rfl⟩) ?_
              refine wpAny_take (i := 11) (v := .bool true) rfl (by kernel_rfl) (by kernel_rfl) (by kernel_rfl) (fun _ _ _ h => h) (Or.inl ⟨by kernel_rfl, fun w => by kernel_rfl⟩) ?_
              refine wpAny_done (by kernel_rfl) ?_ _
              go_simp
              go_wp2_with fail
              refine (sameBools_any (AL.take c) _ _ _ HSB.out HSC.out (by rw [HBT.out]; omega)).mono ?_
              rintro e w11 ⟨rfl, hb⟩
              replace HX := Lib.hid (HX.out.tr hb)
              clear hb
              go_wp2
              go_ret
              exact ⟨rfl, HB.out.tr HX.out⟩
end Go.Proofs.YtegknpffiaeohaaDoor
