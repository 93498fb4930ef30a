/- Frames at a time: walked. Frames at a time, as they are computed: walked. Each lemma states its own conditions. -/
import Derived.Test.YtgkpplbomciehaaSca40
namespace Go.Proofs.Ytgkpplbomciehaa
open Go.RowKit
set_option maxRecDepth 20000 in
set_option maxHeartbeats 4000000 in
theorem newReplayer_any (ps : List PF) (hp : Prog ps) (v : Value) (w : World) (h : Sl pfR w v ps) : Calls Try.prog 81 #[.agg #[v]] w fun x w' => ∃ r, x = .returned (.pointer (some ⟨r, 0, none⟩)) ∧ RepM noG w ps r w' (Rp.start ps) := by
  have hpos := hp.pos
  obtain ⟨A, c, rfl, -⟩ := sl_lit h
  have HB1 : Hid (Bel w (w.alloc (.cells #[.slice A ps.length c] PGT))) := Lib.hid ((Bel.rfl_ w).al _)
  have HP1 := Lib.hid (Blk.new w PGT #[.slice A ps.length c])
  have hq := HP1.out.keep ((Bel.rfl_ _).al (.cells #[.slice A ps.length c, .slice none 0 0, .slice none 0 0] RPT))
  have c0 := HP1.out.cell (i := 0) rfl
  have c1 := hq.cell (i := 0) rfl
  have HD : Hid (RepD noG w ps (w.heap.size + 1) ((w.alloc (.cells #[.slice A ps.length c] PGT)).alloc (.cells #[.slice A ps.length c, .slice none 0 0, .slice none 0 0] RPT)) ⟨[], []⟩ (.slice A ps.length c) (.slice none 0 0) (.slice none 0 0) []) := Lib.hid (by
    have hk := Blk.new (w.alloc (.cells #[.slice A ps.length c] PGT)) RPT #[.slice A ps.length c, .slice none 0 0, .slice none 0 0]
    rw [alloc_size] at hk
    exact ⟨((Bel.rfl_ w).al _).al _, by omega, hk, h, rfl, World.ownsRow_nil _ _ _ _, World.ownsRow_nil _ _ _ _, fun x hx => by simp at hx, by simp, fun x hx => by simp at hx, fun h => h.elim⟩)
  have hlast := List.getElem_mem (l := ps) (n := ps.length - 1) (by omega)
  have hg : ps.getD ((ps.length : Int) - 1).toNat noF = ps[ps.length - 1] := by
    rw [show ((ps.length : Int) - 1).toNat = ps.length - 1 by omega, List.getD_eq_getElem?_getD, List.getElem?_eq_getElem (by omega)]
    rfl
  have hz := hp.sizes _ hlast
  rw [← hg] at hz
  have HEN := Lib.hid (enter_any noG w ps (w.heap.size + 1) ⟨[], []⟩ 0 ((ps.length : Int) - 1) _ ⟨_, _, _, _, HD.out⟩ (by omega) (by omega) hz.1 hz.2 (by simp) (by simp))
  have hst : (⟨([] : List Fm) ++ [⟨0, (ps.length : Int) - 1, zeroV (ps.getD ((ps.length : Int) - 1).toNat noF).sizes⟩], ([] : List Int) ++ [(ps.length : Int) - 1]⟩ : Rp) = Rp.start ps := by
    rw [show ((ps.length : Int) - 1).toNat = ps.length - 1 by omega]
    rfl
  rw [hst] at HEN
  have h6 := hp.six
  clear hz hg hlast hst HD hq h
  go_enter Try.func81, Try.ntmps81
  go_wp2_with fail
  refine HEN.out.mono ?_
  rintro x w2 ⟨rfl, hM⟩
  have HM := Lib.hid hM
  clear hM HEN c0 c1
  generalize w.heap.size = Q at *
  go_wp2
  go_ret
  exact ⟨_, rfl, HM.out⟩
/-- what is wrong with what is told of a state -/
noncomputable def stateE (ps : List PF) (l : List Ev) : Int := open Classical in if rightE ps l ≠ 0 then rightE ps l else if RightP ps l then 0 else 4
theorem stateE_ok {ps : List PF} {l : List Ev} (h : stateE ps l = 0) : Prog ps ∧ RightP ps l ∧ l.length ≤ 4000 := by
  unfold stateE at h
  split at h
  · rename_i h1; exact absurd h h1
  · rename_i h1
    split at h
    · rename_i h2
      have h3 : rightE ps l = 0 := by omega
      unfold rightE at h3
      split at h3
      · rename_i h4; exact absurd h3 h4
      · rename_i h4
        split at h3
        · omega
        · exact ⟨errP_ok (by omega), h2, by omega⟩
    · omega
set_option maxRecDepth 20000 in
set_option maxHeartbeats 4000000 in
theorem stReady_any (ps : List PF) (l : List Ev) (vp vl : Value) (w : World) (h : Sl pfR w vp ps) (hl : Sl evR w vl l) : Calls Try.prog 79 #[.agg #[vp], vl] w fun r w' => r = .returned (.int .i64 (stateE ps l)) ∧ Bel w w' := by
  have HSL := Lib.hid h
  have HEV := Lib.hid hl
  obtain ⟨A, c, rfl, -⟩ := sl_lit h
  obtain ⟨Ae, ce, rfl, hll⟩ := sl_lit hl
  have HB1 : Hid (Bel w (w.alloc (.cells #[.slice A ps.length c] PGT))) := Lib.hid ((Bel.rfl_ w).al _)
  have HP1 := Lib.hid (Blk.new w PGT #[.slice A ps.length c])
  have c0 := HP1.out.cell (i := 0) rfl
  have HRT := Lib.hid (fun W (hb : Bel w W) => right_any ps l _ _ W (HSL.out.keep hb) (HEV.out.keep hb))
  have HT : Hid ((rightE ps l ≠ 0 → stateE ps l = rightE ps l) ∧ (rightE ps l = 0 → (RightP ps l → stateE ps l = 0) ∧ (¬ RightP ps l → stateE ps l = 4))) := Lib.hid ⟨fun h => by unfold stateE; rw [if_pos h], fun h => ⟨fun h2 => by unfold stateE; rw [if_neg (by rw [h]; decide), if_pos h2], fun h2 => by unfold stateE; rw [if_neg (by rw [h]; decide), if_neg h2]⟩⟩
  unfold RightIs at HRT
  clear h hl
  generalize stateE ps l = T at *
  generalize rightE ps l = RE at *
  go_enter Try.func79, Try.ntmps79
  go_wp2_with fail
  refine (HRT.out _ HB1.out).mono ?_
  rintro r w2 ⟨b2, ⟨hne, rfl⟩ | ⟨h0, b, rfl, hb⟩⟩
  · have HB2 := Lib.hid (HB1.out.tr b2)
    have d0 : (RE != 0) = true := by simpa using hne
    have HR := Lib.hid (HT.out.1 hne)
    clear hne b2 HT c0
    go_wp2
    go_ret
    exact ⟨by rw [HR.out]; rfl, HB2.out⟩
  subst h0
  have HB2 := Lib.hid (HB1.out.tr b2)
  have HT2 := Lib.hid (HT.out.2 (by first | rfl | trivial))
  have HBB := Lib.hid hb
  clear b2 c0 HT hb
  cases b with
  | true =>
    have HR := Lib.hid (HT2.out.1 (HBB.out.1 rfl))
    go_wp2
    go_ret
    exact ⟨by rw [HR.out]; rfl, HB2.out⟩
  | false =>
    have HR := Lib.hid (HT2.out.2 (fun h => by have := HBB.out.2 h; cases this))
    go_wp2
    go_ret
    exact ⟨by rw [HR.out]; rfl, HB2.out⟩
theorem evs_snoc {ps : List PF} {l : List Ev} {j : Nat} {e : Ev} (h : l[j]? = some e) (s : Rp) : Rp.evs ps (l.take (j + 1)) s = (Rp.evs ps (l.take j) s).ev ps e := by
  rw [take_snoc h, evs_app]
  rfl
theorem fits_at {ps : List PF} {l : List Ev} {s : Rp} (h : Fits_ ps l s) {j : Nat} {e : Ev} (he : l[j]? = some e) : Fit ps (Rp.evs ps (l.take j) s) e := by
  have h1 : l = l.take j ++ (e :: l.drop (j + 1)) := by
    obtain ⟨hl, rfl⟩ := List.getElem?_eq_some_iff.1 he
    rw [← List.drop_eq_getElem_cons hl, List.take_append_drop]
  rw [h1, fits_app] at h
  exact h.2.1
theorem ev_len (ps : List PF) (s : Rp) (e : Ev) : (s.ev ps e).frs.length ≤ s.frs.length + 1 ∧ (s.ev ps e).fns.length ≤ s.fns.length + 1 := by
  unfold Rp.ev
  split
  · simp
  split
  · simp only [List.length_dropLast]; omega
  split
  · split
    · simp only [List.length_append, List.length_dropLast, List.length_singleton]; omega
    · omega
  · omega
theorem evs_len (ps : List PF) : ∀ (l : List Ev) (s : Rp), (Rp.evs ps l s).frs.length ≤ s.frs.length + l.length ∧ (Rp.evs ps l s).fns.length ≤ s.fns.length + l.length
  | [], s => by simp [Rp.evs]
  | e :: l, s => by
    have h1 := evs_len ps l (s.ev ps e)
    have h2 := ev_len ps s e
    rw [Rp.evs, List.length_cons]
    omega
set_option maxRecDepth 20000 in
set_option maxHeartbeats 4000000 in
theorem stRaw_any (ps : List PF) (hp : Prog ps) (l : List Ev) (hf : Fits_ ps l (Rp.start ps)) (hlen : l.length ≤ 4000) (T : Nat) (hT : T ≤ l.length) (vp vl : Value) (w : World) (h : Sl pfR w vp ps) (hl : Sl evR w vl l) :
    Calls Try.prog 80 #[.agg #[vp], vl, .int .i64 T] w fun x w' => Bel w w' ∧ ∃ w1 r vfr vp2 vfn xs, Bel w w1 ∧ x = .returned vfr ∧ RepD noG w1 ps r w' (Rp.evs ps (l.take T) (Rp.start ps)) vp2 vfr vfn xs := by
  have HSL := Lib.hid h
  have HEV := Lib.hid hl
  have HF := Lib.hid hf
  have HPR := Lib.hid hp
  have HST := Lib.hid hp.sizes
  obtain ⟨A, c, rfl, -⟩ := sl_lit h
  obtain ⟨Ae, ce, rfl, hll⟩ := sl_lit hl
  obtain ⟨hce, hcm⟩ : l.length ≤ ce ∧ (ce ≤ maxLen ∧ (Ae = none → ce = 0)) := by
    obtain ⟨A', c', he, h1, h2, -⟩ := hl
    injection he with e1 _ e3
    subst e1 e3
    exact ⟨h1, h2⟩
  have HB1 : Hid (Bel w (w.alloc (.cells #[.slice A ps.length c] PGT))) := Lib.hid ((Bel.rfl_ w).al _)
  have HP1 := Lib.hid (Blk.new w PGT #[.slice A ps.length c])
  have c0 := HP1.out.cell (i := 0) rfl
  have HNR := Lib.hid (newReplayer_any ps hp _ _ (h.keep HB1.out))
  have HCE := Lib.hid hce
  have HCM := Lib.hid hcm
  clear h hl hf hp hce hcm
  go_enter Try.func80, Try.ntmps80
  go_wp2_with fail
  generalize hW1 : w.alloc (.cells #[.slice A ps.length c] PGT) = W1 at *
  clear hW1
  generalize w.heap.size = Q at *
  refine HNR.out.mono ?_
  rintro x w2 ⟨r, rfl, hM⟩
  have HM := Lib.hid hM
  have HS2 : Hid (Bel W1 w2) := Lib.hid (by obtain ⟨_, _, _, _, hD⟩ := hM; exact hD.bel)
  have HM0 : Hid (RepM noG W1 ps r w2 (Rp.evs ps (l.take 0) (Rp.start ps))) := Lib.hid hM
  clear hM c0 HNR HP1
  have hcc : T ≤ ce := Nat.le_trans hT HCE.out
  have hcm2 := HCM.out.1
  have HSH : Hid (∀ s : Rp, RepM noG W1 ps r w2 s → True) := Lib.hid (fun _ _ => trivial)
  have hAe : (if ce = 0 then Ae else Ae.map (·.add 0)) = Ae := by cases Ae with
    | none => split <;> rfl
    | some p => split <;> simp [Addr.add]
  go_wp2
  clear HM HSH
  go_loopw [16] (fun i wr => ∃ j : Nat, i = .int .i64 j ∧ j ≤ T ∧ Hid (RepM noG W1 ps r wr (Rp.evs ps (l.take j) (Rp.start ps)))) (fun i _ => T - (intOf i).toNat)
  case atStart => exact ⟨0, rfl, Nat.zero_le _, HM0⟩
  case round =>
    obtain ⟨j, rfl, hj, HM⟩ := hrel
    obtain ⟨WO, hWO⟩ : ∃ W, W = wr := ⟨_, rfl⟩
    subst hWO
    have HB : Hid (Bel W1 WO) := Lib.hid (by obtain ⟨_, _, _, _, hD⟩ := HM.out; exact hD.bel)
    have i0 : (0 : Int) ≤ j := by omega
    clear HM0 HS2
    by_cases hlt : j < T
    · have hdd : decide ((j : Int) < T) = true := decide_eq_true (by omega)
      obtain ⟨e, he⟩ : ∃ e, l[j]? = some e := ⟨_, List.getElem?_eq_getElem (by omega)⟩
      obtain ⟨b, o, rfl, hea⟩ := HEV.out.event he
      have HEA := Lib.hid (hea.keep (HB1.out.tr HB.out))
      have HSN := Lib.hid (evs_snoc he (ps := ps) (Rp.start ps))
      have hl1 := evs_len ps (l.take j) (Rp.start ps)
      have hl2 : (l.take j).length = j := by rw [List.length_take]; omega
      have HEN := Lib.hid (fun W (hW : Bel WO W) => event_any noG W1 ps r _ e W (HM.out.keep hW) (fits_at HF.out he) HST.out (by
        have : (Rp.start ps).frs.length = 1 := rfl
        omega) (by
        have : (Rp.start ps).fns.length = 1 := rfl
        omega))
      have i1 : (j : Int) < T := by omega
      clear hea he hl1 hl2 HM
      generalize Rp.evs ps (l.take j) (Rp.start ps) = s at *
      go_upto_region 5 with (refine copyEV (.tmp 18) (.tmp 9) (.tmp 19) rfl rfl rfl rfl rfl rfl b (o + j * 6) (by exact rfl) e HEA.out (by exact rfl) (by exact rfl) ?_)
      have HB3 := Lib.hid ((Bel.rfl_ WO).al (.cells e.cells.toArray EVT))
      have HK := Lib.hid (Blk.new WO EVT e.cells.toArray)
      generalize hW2 : WO.alloc _ = W2 at *
      clear hW2 HB HEA
      generalize WO.heap.size = K at *
      replace HEN := Lib.hid (HEN.out W2 HB3.out)
      have c0 := HK.out.cell (i := 0) (v := .int .i64 e.kind) rfl
      have c1 := HK.out.cell (i := 1) (v := .int .i64 e.frame) rfl
      have c2 := HK.out.cell (i := 2) (v := .int .i64 e.at_) rfl
      have c3 := HK.out.cell (i := 3) (v := .int .i64 e.var) rfl
      have c4 := HK.out.cell (i := 4) (v := .int .i64 e.index) rfl
      have c5 := HK.out.cell (i := 5) (v := .int .i64 e.value) rfl
      go_wp2_with fail
      refine HEN.out.mono ?_
      rintro x w4 ⟨rfl, hM4⟩
      have HM4 : Hid (RepM noG W1 ps r w4 (Rp.evs ps (l.take (j + 1)) (Rp.start ps))) := Lib.hid (by rw [HSN.out]; exact hM4)
      clear hM4 HEN HK c0 c1 c2 c3 c4 c5 HSN HB3
      go_wp2
      go_roundw
      case rel => exact ⟨j + 1, by go_num, by omega, HM4⟩
      case measure => simp [intOf]; omega
    have hdd : decide ((j : Int) < T) = false := decide_eq_false (by omega)
    have hjl : j = T := by omega
    clear hj hlt
    subst hjl
    obtain ⟨vp, vfr, vfn, xs, hD⟩ := HM.out
    have HD := Lib.hid hD
    have HX := Lib.hid (HB1.out.tr HB.out)
    clear HM hD
    have c1 := HD.out.blk.cell (i := 1) rfl
    go_wp2
    go_ret
    exact ⟨HX.out, _, r, vfr, vp, vfn, xs, HB1.out, rfl, HD.out⟩
end Go.Proofs.Ytgkpplbomciehaa
