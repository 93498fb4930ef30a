/- WhenTells answers true: the walk. Each lemma states its own conditions. -/
import Derived.Test.YtegknpffiaeohaaWhenD
namespace Go.Proofs.Ytegknpffiaeohaa
open Go.RowKit

theorem Sl.ints {w : World} {g : Nat} {t : TypeId} {cs : Array Value} {c : Nat} (h : Blk w g t cs) {xs : List Int} (hx : cs.toList = xs.map (Value.int .i64)) (hc : xs.length ≤ c) (hm : c ≤ maxLen) : Sl intR w (.slice (some ⟨g, 0, none⟩) xs.length c) xs := by
  refine ⟨_, c, rfl, hc, ⟨hm, fun h => by cases h⟩, fun _ => ⟨g, 0, rfl, fun k x hk => ⟨[.int .i64 x], rfl, fun j u hu => h.cell ?_⟩⟩⟩
  have hj : j = 0 := by have := (List.getElem?_eq_some_iff.1 hu).1; simp at this; omega
  subst hj
  simp only [List.getElem?_cons_zero, Option.some.injEq] at hu
  subst hu
  have : cs.toList[k]? = some (.int .i64 x) := by rw [hx, List.getElem?_map, hk]; rfl
  simpa [intR] using this

theorem elInt : Elem Try.prog 39 3 1 8 := Elem.mk_ (z := .int .i64 0) Try.underlying39 (by kernel_rfl) rfl (by decide)
theorem times_once (val v : Value) (w : World) (h : AskV w onceQ val) (hv : Sl evR w v smallT) :
    Calls Try.prog 15 #[val, v, .int .i64 0, .int .i64 9] w fun r w' => ∃ u, r = .returned (.tuple #[u, .int .i64 0]) ∧ Sl intR w' u [4, 5] ∧ Bel w w' := by
  have := times_any onceQ val v smallT 0 9 w h hv (by unfold ok64; decide) (by omega) (by omega)
  rw [onceErr, onceL] at this
  exact this
theorem first_once (val v : Value) (w : World) (h : AskV w onceQ val) (hv : Sl evR w v smallT) :
    Calls Try.prog 16 #[val, v] w fun r w' => r = .returned (.tuple #[.int .i64 4, .bool true, .int .i64 0]) ∧ Bel w w' := by
  have := first_any onceQ val v smallT w h hv (by unfold ok64; decide)
  rw [onceErr, onceL] at this
  refine this.mono ?_
  rintro r w' ⟨x, is, rfl, hf, hb⟩
  have h4 : First [false, false, false, false, true, true] 0 6 4 true := .inr ⟨rfl, 4, rfl, by omega, by omega, rfl, fun v _ hv => by
    match v, hv with
    | 0, _ => rfl
    | 1, _ => rfl
    | 2, _ => rfl
    | 3, _ => rfl
    | v + 4, hv => omega⟩
  obtain ⟨rfl, rfl⟩ := First.eq hf h4
  exact ⟨rfl, hb⟩
theorem spans_once (val v : Value) (w : World) (h : AskV w onceQ val) (hv : Sl evR w v smallT) :
    Calls Try.prog 17 #[val, v] w fun r w' => ∃ u, r = .returned (.tuple #[u, .int .i64 0]) ∧ Sl spanR w' u [(4, 6)] ∧ Bel w w' := by
  have := spans_any onceQ val v smallT w h hv (by unfold ok64; decide)
  rw [onceErr, onceL, onceSpans] at this
  exact this

set_option maxRecDepth 20000 in
set_option maxHeartbeats 1000000 in
theorem whenBegun_any (w : World) : Calls Try.prog 21 #[] w fun r w' => r = .returned (.bool true) ∧ Bel w w' := by
  have hq : ∀ W : World, (binOp .eql 52 (.agg #[.int .i64 4, .int .i64 6]) (.agg #[.int .i64 4, .int .i64 6])).run Try.prog W = .ok (.bool true) W := fun W => eql_sp 4 6 4 6 W
  have hg : ∀ (op : BinOp) (xs ys : Array Value) (x y : Operand) (W : World), (eqGuard op 52 x y (.agg xs) (.agg ys)).run Try.prog W = .ok () W := eqg_sp
  go_enter Try.func21, Try.ntmps21
  go_wp2_with fail
  refine (once_any _).mono ?_
  rintro r wa1 ⟨q1, rfl, hq1, hba1⟩
  go_wp2_with fail
  refine (smallTrace_any _).mono ?_
  rintro r wb1 ⟨s1, rfl, hs1, hbb1⟩
  go_wp2_with fail
  refine (times_once _ _ _ (hq1.keep hbb1) hs1).mono ?_
  rintro r wc1 ⟨u1, rfl, hu1, hbc1⟩
  have HB1 := Lib.hid ((Bel.tr (Bel.tr hba1 hbb1) hbc1))
  have HU1 := Lib.hid hu1
  clear hu1
  clear hba1 hbb1 hbc1 hq1 hs1
  go_wp2_with fail
  refine (once_any _).mono ?_
  rintro r wa2 ⟨q2, rfl, hq2, hba2⟩
  go_wp2_with fail
  refine (smallTrace_any _).mono ?_
  rintro r wb2 ⟨s2, rfl, hs2, hbb2⟩
  go_wp2_with fail
  refine (first_once _ _ _ (hq2.keep hbb2) hs2).mono ?_
  rintro r wc2 ⟨rfl, hbc2⟩
  have HB2 := Lib.hid (HB1.out.tr (Bel.tr (Bel.tr hba2 hbb2) hbc2))
  have HU1' := Lib.hid (HU1.out.keep ((hba2.tr hbb2).tr hbc2))
  clear hba2 hbb2 hbc2 hq2 hs2
  go_wp2_with fail
  refine (once_any _).mono ?_
  rintro r wa3 ⟨q3, rfl, hq3, hba3⟩
  go_wp2_with fail
  refine (smallTrace_any _).mono ?_
  rintro r wb3 ⟨s3, rfl, hs3, hbb3⟩
  go_wp2_with fail
  refine (spans_once _ _ _ (hq3.keep hbb3) hs3).mono ?_
  rintro r wc3 ⟨u3, rfl, hu3, hbc3⟩
  have HB3 := Lib.hid (HB2.out.tr (Bel.tr (Bel.tr hba3 hbb3) hbc3))
  have HU1'' := Lib.hid (HU1'.out.keep ((hba3.tr hbb3).tr hbc3))
  have HU3 := Lib.hid hu3
  clear hu3
  clear hba3 hbb3 hbc3 hq3 hs3
  obtain ⟨A1, c1, rfl, -⟩ := id HU1''.out
  obtain ⟨A3, c3, rfl, _, _, hA3⟩ := id HU3.out
  obtain ⟨b3, o3, rfl, hc3⟩ := hA3 (by decide)
  have hz := spanR.cells hc3 (k := 0) rfl
  rw [Nat.zero_mul, Nat.add_zero] at hz
  obtain ⟨z0, z1⟩ := hz
  clear hc3 hA3
  go_wp2_with fail
  have hn := Sl.ints (Blk.new wc3 3 #[.int .i64 4, .int .i64 5]) (xs := [4, 5]) (c := 2) rfl (by decide) (by decide)
  refine (sameInts_any _ _ [4, 5] [4, 5] _ (HU1''.out.keep ((Bel.rfl_ _).al _)) hn (by unfold ok64; decide) (by unfold ok64; decide)).mono ?_
  rintro r w4 ⟨rfl, hb4⟩
  have hb5 : Bel wc3 w4 := Bel.tr ((Bel.rfl_ _).al _) hb4
  have z0 := hb5.cell z0
  have z1 := hb5.cell z1
  have HB5 := Lib.hid (HB3.out.tr hb5)
  clear hb5 hb4 hn
  go_wp2
  go_ret
  exact ⟨rfl, HB5.out⟩

set_option maxRecDepth 20000 in
set_option maxHeartbeats 2000000 in
theorem wTells_any (q : Ask) (val v : Value) (l : List Ev) (a b : Int) (w : World) (h : AskV w q val) (hv : Sl evR w v l) (hl : ok64 l.length) (ha : -9223372036854775808 ≤ a ∧ a ≤ 9223372036854775807) (hb : -9223372036854775808 ≤ b ∧ b ≤ 9223372036854775807) :
    Calls Try.prog 7 #[val, v, .int .i64 a, .int .i64 b] w fun r w' => r = .returned (.bool true) ∧ Bel w w' := by
  have HT := Lib.hid (fun val v W h hv => times_any q val v l a b W h hv hl ha hb)
  have HF := Lib.hid (fun val v W h hv => first_any q val v l W h hv hl)
  have HS := Lib.hid (fun val v W h hv => spans_any q val v l W h hv hl)
  have HC := Lib.hid (fun val W h => checkAsk_any q val W h)
  have HDEF : Hid ((if q.err = 0 then if 4000 < l.length then (2 : Int) else 0 else q.err) = holdErr q l.length) := Lib.hid rfl
  have HNIL : Hid (holdErr q l.length ≠ 0 → holdL q l = []) := Lib.hid holdL_nil
  have HZERO : Hid (holdErr q l.length = 0 → q.chk = 0 ∧ l.length ≤ 4000 ∧ holdL q l = q.holds l ∧ (holdL q l).length = l.length) := Lib.hid fun h => ⟨(holdErr_zero h).1, (holdErr_zero h).2, by unfold holdL; rw [if_pos h], (holdL_length q l).2 h⟩
  have hL4 := (holdL_length q l).1
  generalize holdErr q l.length = E at *
  generalize holdL q l = L at *
  generalize q.err = EC at *
  have HXL : Hid (ok64 (timesL L a b L.length).length) := Lib.hid (by unfold ok64; have := timesL_le L a b L.length; omega)
  have HQ := Lib.hid h
  have HV := Lib.hid hv
  obtain ⟨v', rfl, hsl⟩ := h
  obtain ⟨A, c, rfl, -⟩ := hsl
  obtain ⟨LA, lc, rfl, -⟩ := hv
  unfold ok64 at hl
  have hb0 : Bel w (w.alloc (.cells #[.int .i64 q.kind, .int .i64 q.n, .slice A q.args.length c] 37)) := (Bel.rfl_ w).al _
  go_enter Try.func7, Try.ntmps7
  go_wp2_with fail
  refine (HT.out _ _ _ (HQ.out.keep hb0) (HV.out.keep hb0)).mono ?_
  rintro r w1 ⟨ua, rfl, hua, hb1⟩
  have HB1 := Lib.hid (hb0.tr hb1)
  have h1 := (Blk.new w 37 #[.int .i64 q.kind, .int .i64 q.n, .slice A q.args.length c]).keep hb1
  have z0 := h1.cell (i := 0) rfl
  have z1 := h1.cell (i := 1) rfl
  have z2 := h1.cell (i := 2) rfl
  have HUA := Lib.hid hua
  have HZ := Lib.hid h1
  clear hb0 hb1 hua h1
  go_wp2_with fail
  refine (HF.out _ _ _ (HQ.out.keep HB1.out) (HV.out.keep HB1.out)).mono ?_
  rintro r w2 ⟨x, is, rfl, hf, hb2⟩
  have HB2 := Lib.hid (HB1.out.tr hb2)
  have HZ := Lib.hid (HZ.out.keep hb2)
  have z0 := HZ.out.cell (i := 0) rfl
  have z1 := HZ.out.cell (i := 1) rfl
  have z2 := HZ.out.cell (i := 2) rfl
  have HUA := Lib.hid (HUA.out.keep hb2)
  have HFI := Lib.hid hf
  clear hf hb2
  go_wp2_with fail
  refine (HS.out _ _ _ (HQ.out.keep HB2.out) (HV.out.keep HB2.out)).mono ?_
  rintro r w3 ⟨uc, rfl, huc, hb3⟩
  have HB3 := Lib.hid (HB2.out.tr hb3)
  have HZ := Lib.hid (HZ.out.keep hb3)
  have z0 := HZ.out.cell (i := 0) rfl
  have z1 := HZ.out.cell (i := 1) rfl
  have z2 := HZ.out.cell (i := 2) rfl
  have HUA := Lib.hid (HUA.out.keep hb3)
  have HUC := Lib.hid huc
  clear huc hb3
  go_wp2_with fail
  refine (HC.out _ _ (HQ.out.keep HB3.out)).mono ?_
  rintro r w4 ⟨rfl, hb4⟩
  have HB4 := Lib.hid (HB3.out.tr hb4)
  have HZ := Lib.hid (HZ.out.keep hb4)
  have z0 := HZ.out.cell (i := 0) rfl
  have z1 := HZ.out.cell (i := 1) rfl
  have z2 := HZ.out.cell (i := 2) rfl
  have HUA := Lib.hid (HUA.out.keep hb4)
  have HUC := Lib.hid (HUC.out.keep hb4)
  clear hb4
  by_cases hEC : EC = 0
  · rw [if_pos hEC] at HDEF
    subst hEC
    by_cases hn : 4000 < l.length
    · rw [if_pos hn] at HDEF
      have hE : E = 2 := HDEF.out.symm
      subst hE
      have hL : L = [] := HNIL.out (by decide)
      have HUT : Hid (Sl intR w4 (.slice none 0 0) (timesL L a b L.length)) := Lib.hid (by rw [hL]; exact Sl.nil_ _ _)
      obtain ⟨rfl, rfl⟩ := HFI.out.eq (.inl ⟨rfl, rfl, fun v _ h => by rw [hL] at h; simp at h⟩)
      have HBT := HB4
      have hS : spansL L = [] := by rw [hL]; rfl
      have HUC := Lib.hid (hS ▸ HUC.out)
      clear hS hL
      go_wp2_with fail
      refine (whenBegun_any _).mono ?_
      rintro r wz ⟨rfl, hbz⟩
      have HBZ := Lib.hid (HBT.out.tr hbz)
      have HUA := Lib.hid (HUA.out.keep hbz)
      have HUT := Lib.hid (HUT.out.keep hbz)
      clear hbz
      obtain ⟨AC, cC, rfl, -⟩ := id HUC.out
      go_wp2_with fail
      refine (sameInts_any _ _ _ _ _ HUA.out HUT.out HXL.out HXL.out).mono ?_
      rintro r wy ⟨rfl, hby⟩
      have HBY := Lib.hid (HBZ.out.tr hby)
      clear hby
      rw [decide_eq_true (rfl : timesL L a b L.length = timesL L a b L.length)]
      go_wp2
      go_loopw [23] (fun i wr => i = .int .i64 0 ∧ wr = wy) (fun _ _ => 0)
      case atStart => exact ⟨rfl, rfl⟩
      case round =>
        obtain ⟨rfl, rfl⟩ := hrel
        go_wp2
        go_ret
        exact ⟨rfl, HBY.out⟩
    · rw [if_neg hn] at HDEF
      have hE : E = 0 := HDEF.out.symm
      subst hE
      obtain ⟨hck, hl4, hLe, hLl⟩ := HZERO.out rfl
      have HHO := Lib.hid (fun val v W h hv => holdsOf_any l hl4 q hck val v W h hv)
      rw [← hLe] at HHO
      have HLL := Lib.hid hLl
      clear hck hLe hLl HNIL HZERO HT HF HS HC
      go_wp2_with fail
      refine (HHO.out _ _ _ (HQ.out.keep HB4.out) (HV.out.keep HB4.out)).mono ?_
      rintro r w5 ⟨uh, rfl, huh, hb5⟩
      have HB5 := Lib.hid (HB4.out.tr hb5)
      have HUA := Lib.hid (HUA.out.keep hb5)
      have HUC := Lib.hid (HUC.out.keep hb5)
      have HUH := Lib.hid huh.sl
      clear hb5 huh
      go_wp2_with fail
      refine (spansOf_any uh L _ HUH.out hL4).mono ?_
      rintro r w6 ⟨us, rfl, hus, hb6⟩
      have HB6 := Lib.hid (HB5.out.tr hb6)
      have HUA := Lib.hid (HUA.out.keep hb6)
      have HUC := Lib.hid (HUC.out.keep hb6)
      have HUH := Lib.hid (HUH.out.keep hb6)
      have HUS := Lib.hid hus
      clear hb6 hus
      obtain ⟨AH, cH, rfl, _, _, hAH⟩ := id HUH.out
      have HAH := Lib.hid hAH
      clear hAH z0 z1 z2
      go_wp2
      go_loopw [17, 18, 19, 22] (fun ts fx fi i wr => ∃ (t n : Nat) (y : Int) (js : Bool) (ys : List Int), i = .int .i64 ((t : Int) - 1) ∧ fx = .int .i64 y ∧ fi = .bool js ∧ t ≤ L.length ∧ n ≤ L.length - t ∧ Hid (First L t L.length y js) ∧ Hid (timesL L a b t ++ ys = timesL L a b L.length) ∧ Hid (n = ys.length) ∧ Hid (wr.ownsRow w6.heap.size 3 1 ts n (ys.map (Value.int .i64))) ∧ Hid (Bel w6 wr)) (fun _ _ _ i _ => (intOf i + 1).toNat)
      case atStart => exact ⟨L.length, 0, 0, false, [], by simp, rfl, rfl, Nat.le_refl _, by omega, Lib.hid (.inl ⟨rfl, rfl, fun v h1 h2 => by omega⟩), Lib.hid (List.append_nil _), rfl, World.ownsRow_nil _ _ _ _, Bel.rfl_ _⟩
      case round =>
        obtain ⟨t, n, y, js, ys, rfl, rfl, rfl, ht, hnt, HFR, HTM, HNY, HO, HBX⟩ := hrel
        cases t with
        | zero =>
          obtain ⟨rfl, rfl⟩ := HFI.out.eq HFR.out
          have HUT : Hid (Sl intR wr u17 (timesL L a b L.length)) := Lib.hid (by
            have h1 := HTM.out
            rw [show timesL L a b 0 = [] from rfl, List.nil_append] at h1
            rw [← h1]
            exact Sl.own_int HO.out HNY.out)
          have HBT := Lib.hid (HB6.out.tr HBX.out)
          have HUA := Lib.hid (HUA.out.keep HBX.out)
          have HUC := Lib.hid (HUC.out.keep HBX.out)
          have HUS := Lib.hid (HUS.out.keep HBX.out)
          go_wp2_with fail
          refine (whenBegun_any _).mono ?_
          rintro r wz ⟨rfl, hbz⟩
          have HBZ := Lib.hid (HBT.out.tr hbz)
          have HUA := Lib.hid (HUA.out.keep hbz)
          have HUT := Lib.hid (HUT.out.keep hbz)
          have HUC := Lib.hid (HUC.out.keep hbz)
          have HUS := Lib.hid (HUS.out.keep hbz)
          clear hbz
          obtain ⟨AC, cC, rfl, -⟩ := id HUC.out
          obtain ⟨AS, cS, rfl, -⟩ := id HUS.out
          have hspl := spans_length L
          go_wp2_with fail
          refine (sameInts_any _ _ _ _ _ HUA.out HUT.out HXL.out HXL.out).mono ?_
          rintro r wy ⟨rfl, hby⟩
          have HBY := Lib.hid (HBZ.out.tr hby)
          have HUC := Lib.hid (HUC.out.keep hby)
          have HUS := Lib.hid (HUS.out.keep hby)
          clear hby
          rw [decide_eq_true (rfl : timesL L a b L.length = timesL L a b L.length)]
          go_wp2
          go_loopw [23] (fun i wr => ∃ k : Nat, i = .int .i64 k ∧ k ≤ (spansL L).length ∧ ∃ n, wr = wy.drewN n) (fun i _ => (spansL L).length - (intOf i).toNat)
          case atStart => exact ⟨0, rfl, by omega, 0, rfl⟩
          case round =>
            obtain ⟨k, rfl, hk, n, rfl⟩ := hrel
            by_cases hlt : k < (spansL L).length
            · obtain ⟨x, hx⟩ : ∃ x, (spansL L)[k]? = some x := ⟨_, List.getElem?_eq_getElem hlt⟩
              obtain ⟨_, _, eC, hcC, _, hAC⟩ := HUC.out
              injection eC with eC1 _ eC3
              subst eC1
              subst eC3
              obtain ⟨bC, oC, rfl, hcC'⟩ := hAC (by omega)
              obtain ⟨_, _, eS, hcS, _, hAS⟩ := HUS.out
              injection eS with eS1 _ eS3
              subst eS1
              subst eS3
              obtain ⟨bS, oS, rfl, hcS'⟩ := hAS (by omega)
              obtain ⟨y0, y1⟩ := spanR.cells hcC' hx
              obtain ⟨z0, z1⟩ := spanR.cells hcS' hx
              have hq : ∀ W : World, (binOp .neq 52 (.agg #[.int .i64 x.1, .int .i64 x.2]) (.agg #[.int .i64 x.1, .int .i64 x.2])).run Try.prog W = .ok (.bool false) W := fun W => by rw [neq_sp]; simp
              clear hcC' hcS' hAC hAS hcC hcS hx
              go_wp2
              go_quiet (fail)
              go_wp2
              go_roundw
              case rel => exact ⟨k + 1, by go_num, by omega, _, rfl⟩
              case measure => simp [intOf]; omega
            · go_wp2
              go_ret
              exact ⟨rfl, HBY.out.drN _⟩
        | succ s =>
          have hsi : ((s + 1 : Nat) : Int) - 1 = s := by omega
          rw [hsi]
          obtain ⟨g, hx, ex⟩ := bg_get (l := L) (i := s) (by omega)
          obtain ⟨bb, oo, rfl, hcH⟩ := HAH.out (by omega)
          have z0 := HBX.out.cell (boolR.cell hcH hx)
          clear hcH hx
          have HTS : Hid (timesL L a b (s + 1) = timesL L a b s ++ if bg L s = true ∧ a ≤ s ∧ s < b then [(s : Int)] else []) := Lib.hid rfl
          cases g with
          | false =>
            have HFR' := Lib.hid (HFR.out.on ex)
            have HTM' : Hid (timesL L a b s ++ ys = timesL L a b L.length) := Lib.hid (by rw [← HTM.out, HTS.out, ex]; simp)
            clear ex HTS
            go_wp2
            go_roundw
            case rel => exact ⟨s, n, y, js, ys, by go_num, rfl, rfl, by omega, by omega, HFR', HTM', HNY, HO, HBX⟩
            case measure => simp [intOf]
          | true =>
            have HFR' : Hid (First L s L.length s true) := Lib.hid (First.here (by omega) ex)
            by_cases hab : a ≤ (s : Int) ∧ (s : Int) < b
            · have h1 := hab.1
              have h2 := hab.2
              have HTM' : Hid (timesL L a b s ++ ((s : Int) :: ys) = timesL L a b L.length) := Lib.hid (by rw [← HTM.out, HTS.out, if_pos ⟨ex, hab⟩]; simp)
              clear ex HTS hab
              have HSLT := Lib.hid (Sl.own_int HO.out HNY.out)
              obtain ⟨AT, cT, rfl, _, hmT, hAT⟩ := id HSLT.out
              have HCT : Hid (0 < ys.length → ∃ b off, AT = some ⟨b, off, none⟩ ∧ CellsAt (wr.alloc (.cells #[.int .i64 s] 3)) b off (ys.map (Value.int .i64))) := Lib.hid fun hp => by
                obtain ⟨b, o, h1, h2⟩ := hAT hp
                exact ⟨b, o, h1, (ints_cells h2).keep ((Bel.rfl_ _).al _)⟩
              have hOL := World.ownsRow_lit (base := w6.heap.size) (e := 3) (size := 1) wr #[.int .i64 s] 1 HBX.out.size (by decide) rfl
              have HOL := Lib.hid hOL
              have hny : ys.length ≤ 4000 := by have := HNY.out; omega
              have HMT := Lib.hid hmT
              clear hAT hmT hOL
              go_wp2_with (at_builtin; go_loud (refine wpl_appAll (wr.alloc (.cells #[.int .i64 s] 3)) rfl (.tmp 83) (.tmp 84) 39 rfl w6.heap.size elInt (.slice (some ⟨wr.heap.size, 0, none⟩) 1 1) 1 _ rfl HOL.out AT ys.length cT (ys.map (Value.int .i64)) rfl (by simp) HMT.out.2 HCT.out (ints_one _) (by simp only [maxLen]; omega) (by omega) (by have := HBX.out.size; simp; omega) ?_); intro v' w7 hown hg _; have HO7 := Lib.hid hown; have HB7 := Lib.hid (Below.ofGrown (HBX.out.al _) HOL.out hg (Nat.le_refl _) (by have := HBX.out.size; simp; omega)); clear hown hg)
              go_roundw
              case rel => exact ⟨s, 1 + n, s, true, (s : Int) :: ys, by go_num, rfl, rfl, by omega, by omega, HFR', HTM', (by unfold Hid; rw [List.length_cons, HNY.out]; omega), (by unfold Hid; have := HO7.out; rw [← HNY.out] at this; exact this), HB7⟩
              case measure => simp [intOf]
            · have HTM' : Hid (timesL L a b s ++ ys = timesL L a b L.length) := Lib.hid (by rw [← HTM.out, HTS.out, if_neg (fun h => hab h.2)]; simp)
              clear ex HTS
              by_cases h1 : a ≤ (s : Int)
              · have h2 : ¬ (s : Int) < b := fun h => hab ⟨h1, h⟩
                go_wp2
                go_roundw
                case rel => exact ⟨s, n, s, true, ys, by go_num, rfl, rfl, by omega, by omega, HFR', HTM', HNY, HO, HBX⟩
                case measure => simp [intOf]
              · go_wp2
                go_roundw
                case rel => exact ⟨s, n, s, true, ys, by go_num, rfl, rfl, by omega, by omega, HFR', HTM', HNY, HO, HBX⟩
                case measure => simp [intOf]
  · rw [if_neg hEC] at HDEF
    have hE : E = EC := HDEF.out.symm
    subst hE
    have hL : L = [] := HNIL.out hEC
    have HUT : Hid (Sl intR w4 (.slice none 0 0) (timesL L a b L.length)) := Lib.hid (by rw [hL]; exact Sl.nil_ _ _)
    obtain ⟨rfl, rfl⟩ := HFI.out.eq (.inl ⟨rfl, rfl, fun v _ h => by rw [hL] at h; simp at h⟩)
    have HBT := HB4
    have hS : spansL L = [] := by rw [hL]; rfl
    have HUC := Lib.hid (hS ▸ HUC.out)
    clear hS hL
    go_wp2_with fail
    refine (whenBegun_any _).mono ?_
    rintro r wz ⟨rfl, hbz⟩
    have HBZ := Lib.hid (HBT.out.tr hbz)
    have HUA := Lib.hid (HUA.out.keep hbz)
    have HUT := Lib.hid (HUT.out.keep hbz)
    clear hbz
    obtain ⟨AC, cC, rfl, -⟩ := id HUC.out
    go_wp2_with fail
    refine (sameInts_any _ _ _ _ _ HUA.out HUT.out HXL.out HXL.out).mono ?_
    rintro r wy ⟨rfl, hby⟩
    have HBY := Lib.hid (HBZ.out.tr hby)
    clear hby
    rw [decide_eq_true (rfl : timesL L a b L.length = timesL L a b L.length)]
    go_wp2
    go_loopw [23] (fun i wr => i = .int .i64 0 ∧ wr = wy) (fun _ _ => 0)
    case atStart => exact ⟨rfl, rfl⟩
    case round =>
      obtain ⟨rfl, rfl⟩ := hrel
      go_wp2
      go_ret
      exact ⟨rfl, HBY.out⟩

end Go.Proofs.Ytegknpffiaeohaa
