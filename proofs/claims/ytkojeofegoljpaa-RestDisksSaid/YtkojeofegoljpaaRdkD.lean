/- disked: a disk on which batches are: walked. The calls of RestDisks as it makes them: what comes back may be spoilt. Each lemma states its own conditions. -/
import Derived.Test.YtkojeofegoljpaaRdkC
import Derived.Deep.DeepCutAuto
import Derived.Test.YtkojeofegoljpaaKolN
import Derived.Test.YtkojeofegoljpaaLogR
namespace Go.Proofs.Ytkojeofegoljpaa
open Go.RowKit

def DkR (_w : World) (r : Ending) (w' : World) : Prop :=
  (∃ A1 n1 c1 A2 n2 c2 A n c, r = .returned (.tuple #[.agg #[.slice A1 n1 c1, .slice A2 n2 c2], .slice A n c, .bool false])) ∨
  ∃ (m : Nat) (D : Dk) (bs : List (List Ev)) (es : List Ev) (i : Nat) (A1 : Option Addr) (c1 : Nat) (A2 : Option Addr) (c2 : Nat) (A : Option Addr) (c : Nat), r = .returned (.tuple #[.agg #[.slice A1 D.kept.length c1, .slice A2 D.written.length c2], .slice A es.length c, .bool true]) ∧ es = bs.flatten ∧
    Dd m D bs i ∧ i ≤ 20 ∧ DkV w' D (.agg #[.slice A1 D.kept.length c1, .slice A2 D.written.length c2]) ∧ Sl evR w' (.slice A es.length c) es ∧ es.length ≤ 1200

set_option maxRecDepth 20000 in
set_option maxHeartbeats 4000000 in
theorem disked_any (n : Int) (bv : Value) (batches : List (List Ev)) (w : World) (hb : Sl (Rep.slice evR) w bv batches) :
    Calls Try.prog 30 #[.int .i64 n, bv] w fun r w' => DkR w r w' ∧ Bel w w' := by
  have HFM := Lib.hid (fun W => format_any n W)
  obtain ⟨B1, e1, rfl, -, -, hbat⟩ := hb
  have HBAT := Lib.hid hbat
  clear hbat
  have hr : Try.f30.results = #[.cell 4 25, .tmp 5, .tmp 6] := rfl
  have HRR := Lib.hid (Blk.new w 25 #[.slice none 0 0, .slice none 0 0])
  have HB := Lib.hid ((Bel.rfl_ w).al (.cells #[.slice none 0 0, .slice none 0 0] 25))
  have HSZ : Hid (w.heap.size + 1 ≤ (w.alloc (.cells #[.slice none 0 0, .slice none 0 0] 25)).heap.size) := Lib.hid (by simp)
  go_enter Try.func30, Try.ntmps30
  go_upto_region 1 with fail
  generalize w.alloc (.cells #[.slice none 0 0, .slice none 0 0] 25) = W0 at *
  go_wp2_with fail
  refine (HFM.out _).mono ?_
  rintro r w1 ⟨val, rfl, hdo, hb1⟩
  replace HB := Lib.hid (HB.out.tr hb1)
  replace HRR := Lib.hid (HRR.out.keep hb1)
  have HSZ0 := HSZ
  replace HSZ : Hid (w.heap.size + 1 ≤ w1.heap.size) := Lib.hid (by have := HSZ.out; have := (Lib.hid hb1).out.size; omega)
  obtain ⟨X1, g1, X2, g2, rfl, -, -⟩ := hdo.dkv
  have HDV := Lib.hid (hdo.base HSZ0.out)
  clear hb1 HFM hdo
  by_cases hn : n < 4 ∨ 600 < n
  · obtain ⟨e1, e2⟩ := fmt_bad hn
    rw [e2] at HDV ⊢
    rw [e1]
    have hba := (Bel.rfl_ w1).al (.cells #[.slice X1 noDk.kept.length g1, .slice X2 noDk.written.length g2] 25)
    have HR2 := Lib.hid (HRR.out.keep hba)
    have r0 := HR2.out.cell (i := 0) (v := .slice none 0 0) rfl
    have r1 := HR2.out.cell (i := 1) (v := .slice none 0 0) rfl
    have rf0 := HR2.out.frozen 0
    have rf1 := HR2.out.frozen 1
    clear HDV e1 e2
    go_wp2
    have hs5 := two_set (a := .slice none 0 0) (b := .slice none 0 0) HR2.out
    have z0 := hs5.cell (i := 0) (v := .slice none 0 0) rfl
    have z1 := hs5.cell (i := 1) (v := .slice none 0 0) rfl
    exact bodyPost_ret (v := .tuple #[.agg #[.slice none 0 0, .slice none 0 0], .slice none 0 0, .bool false]) (by simp [results, z0, z1, go_sem]) rfl ⟨.inl ⟨_, _, _, _, _, _, _, _, _, rfl⟩, ((HB.out.tr hba).setCell (p := ⟨w.heap.size, 0, none⟩) (Nat.le_refl _) (.slice none 0 0)).setCell (p := ⟨w.heap.size, 1, none⟩) (Nat.le_refl _) (.slice none 0 0)⟩
  · obtain ⟨m, rfl⟩ : ∃ m : Nat, n = m := ⟨n.toNat, by omega⟩
    have hm : 4 ≤ m ∧ m ≤ 600 := by omega
    have HST := Lib.hid (Dd.fmt hm)
    rw [fmt_err hm]
    generalize fmtDk (m : Int) = D at *
    have hba := (Bel.rfl_ w1).al (.cells #[.slice X1 D.kept.length g1, .slice X2 D.written.length g2] 25)
    have HH := Lib.hid (HoldO.new HDV.out)
    replace HB := Lib.hid (HB.out.tr hba)
    replace HRR := Lib.hid (HRR.out.keep hba)
    have HVL : Hid (w.heap.size < w1.heap.size) := Lib.hid (by have := HSZ.out; omega)
    clear HDV hba
    go_wp2
    generalize w1.alloc (.cells #[.slice X1 D.kept.length g1, .slice X2 D.written.length g2] 25) = w2 at *
    generalize w1.heap.size = V at *
    go_loopw [9, 10] (fun av iv wr => ∃ (k : Nat) (bs : List (List Ev)) (es : List Ev) (A : Option Addr) (c : Nat) (D : Dk), k ≤ 20 ∧ av = .slice A es.length c ∧ iv = .int .i64 k ∧ es.length ≤ 60 * k ∧ Hid (es = bs.flatten) ∧ Hid (Dd m D bs k) ∧ Hid (EvO wr (w.heap.size + 1) (.slice A es.length c) es) ∧ Hid (HoldO wr V (w.heap.size + 1) D) ∧ Hid (Blk wr w.heap.size 25 #[.slice none 0 0, .slice none 0 0]) ∧ Hid (Bel w wr)) (fun _ t _ => 20 - (intOf t).toNat)
    case atStart => exact ⟨0, [], [], none, 0, D, by omega, rfl, rfl, by simp, Lib.hid rfl, HST, Lib.hid (World.ownsRow_nil _ _ _ _), HH, HRR, HB⟩
    case round =>
      clear HH HB HST HRR
      obtain ⟨k, bs, es, A, c, D, hk20, rfl, rfl, hfl, HES, HST, HO, HH, HRR, HB⟩ := hrel
      by_cases hi : k < batches.length ∧ k < 20
      rotate_left
      · as_aux_lemma =>
          obtain ⟨D1, b1, D2, b2, hBk, hDv⟩ := HH.out
          have v0 := hBk.cell (i := 0) (v := .slice D1 D.kept.length b1) rfl
          have v1 := hBk.cell (i := 1) (v := .slice D2 D.written.length b2) rfl
          have r0 := HRR.out.cell (i := 0) (v := .slice none 0 0) rfl
          have r1 := HRR.out.cell (i := 1) (v := .slice none 0 0) rfl
          have rf0 := HRR.out.frozen 0
          have rf1 := HRR.out.frozen 1
          have HDv := Lib.hid hDv.dkv
          clear hBk hDv
          by_cases hi1 : k < batches.length
          · have d1 : decide ((k : Int) < batches.length) = true := decide_eq_true (by omega)
            have d2 : decide ((k : Int) < 20) = false := decide_eq_false (by omega)
            go_wp2
            have hs5 := two_set (a := .slice D1 D.kept.length b1) (b := .slice D2 D.written.length b2) HRR.out
            have z0 := hs5.cell (i := 0) (v := .slice D1 D.kept.length b1) rfl
            have z1 := hs5.cell (i := 1) (v := .slice D2 D.written.length b2) rfl
            refine bodyPost_ret (v := .tuple #[.agg #[.slice D1 D.kept.length b1, .slice D2 D.written.length b2], .slice A es.length c, .bool true]) (by simp [results, z0, z1, go_sem]) rfl ⟨.inr ⟨m, D, bs, es, k, D1, b1, D2, b2, A, c, rfl, HES.out, HST.out, hk20, HDv.out.aside HRR.out _ _ _ _ _ _, ?_, by omega⟩, (HB.out.setCell (p := ⟨w.heap.size, 0, none⟩) (Nat.le_refl _) _).setCell (p := ⟨w.heap.size, 1, none⟩) (Nat.le_refl _) _⟩
            exact EvO.sl (own_aside (own_aside HO.out HRR.out (by decide) 0 _) (HRR.out.set_ 0 _) (by decide) 1 _)
          · have d1 : decide ((k : Int) < batches.length) = false := decide_eq_false (by omega)
            go_wp2
            have hs5 := two_set (a := .slice D1 D.kept.length b1) (b := .slice D2 D.written.length b2) HRR.out
            have z0 := hs5.cell (i := 0) (v := .slice D1 D.kept.length b1) rfl
            have z1 := hs5.cell (i := 1) (v := .slice D2 D.written.length b2) rfl
            refine bodyPost_ret (v := .tuple #[.agg #[.slice D1 D.kept.length b1, .slice D2 D.written.length b2], .slice A es.length c, .bool true]) (by simp [results, z0, z1, go_sem]) rfl ⟨.inr ⟨m, D, bs, es, k, D1, b1, D2, b2, A, c, rfl, HES.out, HST.out, hk20, HDv.out.aside HRR.out _ _ _ _ _ _, ?_, by omega⟩, (HB.out.setCell (p := ⟨w.heap.size, 0, none⟩) (Nat.le_refl _) _).setCell (p := ⟨w.heap.size, 1, none⟩) (Nat.le_refl _) _⟩
            exact EvO.sl (own_aside (own_aside HO.out HRR.out (by decide) 0 _) (HRR.out.set_ 0 _) (by decide) 1 _)
      · obtain ⟨hi1, hi2⟩ := hi
        have d1 : decide ((k : Int) < batches.length) = true := decide_eq_true (by omega)
        have d2 : decide ((k : Int) < 20) = true := decide_eq_true (by omega)
        obtain ⟨l, hl⟩ : ∃ l, batches[k]? = some l := ⟨_, List.getElem?_eq_getElem hi1⟩
        obtain ⟨b, o, rfl, hcell⟩ := HBAT.out (by omega)
        obtain ⟨lv, hlc, hls⟩ := slv_cell hcell hl
        have HL0 := Lib.hid hlc
        have HLS0 := Lib.hid hls
        have hlc := HB.out.cell hlc
        have HLS := Lib.hid (hls.keep HB.out)
        obtain ⟨L, cl, rfl, -, -, -⟩ := hls
        clear hcell hl
        obtain ⟨D1, b1, D2, b2, hBk, hDv⟩ := HH.out
        have v0 := hBk.cell (i := 0) (v := .slice D1 D.kept.length b1) rfl
        have v1 := hBk.cell (i := 1) (v := .slice D2 D.written.length b2) rfl
        have hsw : w.heap.size + 1 ≤ wr.heap.size := by have := HH.out.lt; have := HVL.out; omega
        have HAP := Lib.hid (fun W (hb : Bel wr W) => app2_any HST.out (by omega) l _ _ W (hDv.dkv.keep hb) (HLS.out.keep hb) (w.heap.size + 1) (Nat.le_trans hsw hb.size))
        have vf0 := hBk.frozen 0
        have vf1 := hBk.frozen 1
        clear hBk hDv hsw
        go_upto_region 8 with fail
        go_cut [11, 12, 13] from 22 to 50 (fun x11 x12 x13 wx => ∃ (X : Nat) (E1 E2 : Option Addr) (k1 k2 f1 f2 : Nat) (AW : Option Addr) (kw cW : Nat) (E : Int), x11 = .pointer (some ⟨X, 0, none⟩) ∧ x12 = .slice AW kw cW ∧ x13 = .int .i64 E ∧ wr.heap.size ≤ X ∧
          Hid (E = 0 → l.length ≤ 60 ∧ ∃ F, k1 = F.kept.length ∧ k2 = F.written.length ∧ Dd m F (bs ++ [l]) (k + 1) ∧ DkO wx (w.heap.size + 1) F (.agg #[.slice E1 k1 f1, .slice E2 k2 f2])) ∧ Hid (Blk wx X 25 #[.slice E1 k1 f1, .slice E2 k2 f2]) ∧ Hid (Bel wr wx))
        case first =>
          clear HST HO HH HRR HB HBAT HLS
          as_aux_lemma =>
            have v0d := ((Bel.rfl_ wr).al (.cells #[.slice none 0 0, .slice none 0 0] 25)).cell v0
            have v1d := ((Bel.rfl_ wr).al (.cells #[.slice none 0 0, .slice none 0 0] 25)).cell v1
            have lcd := ((Bel.rfl_ wr).al (.cells #[.slice none 0 0, .slice none 0 0] 25)).cell hlc
            go_region_law (first
              | (go_simp; go_at_call 22; refine (HAP.out _ ?_).mono ?_; (repeat (first | exact Bel.rfl_ _ | apply Bel.dr | apply Bel.al)); rintro r w3 ⟨⟨E1, k1, f1, E2, k2, f2, AW, kw, cW, E, rfl, -, -, -, hF⟩, hb3⟩; (first | (have hz3 : Blk w3 wr.heap.size 25 #[.slice none 0 0, .slice none 0 0] := (Blk.new wr.drew 25 #[.slice none 0 0, .slice none 0 0]).keep hb3; have d0 := hz3.cell (i := 0) (v := .slice none 0 0) rfl; have d1 := hz3.cell (i := 1) (v := .slice none 0 0) rfl; have e0 := hz3.frozen 0; have e1 := hz3.frozen 1; have HZ3 := Lib.hid hz3; clear hz3) | skip); have hbw : Bel wr w3 := Bel.tr (by repeat (first | exact Bel.rfl_ _ | apply Bel.dr | apply Bel.al)) hb3; have HB3 := Lib.hid hbw; have HF3 := Lib.hid hF; clear hb3 hbw hF))
            all_goals go_wp2
            all_goals go_meet
            all_goals first
              | exact ⟨_, E1, E2, k1, k2, f1, f2, AW, kw, cW, E, rfl, rfl, rfl, Nat.le_refl _, Lib.hid (fun h0 => by obtain ⟨h1, F, h2, h3, h4, h5⟩ := HF3.out h0; exact ⟨h1, F, h2, h3, h4, h5.two HZ3.out _ _⟩), Lib.hid (two_set HZ3.out), Lib.hid ((HB3.out.setCell (p := ⟨_, 0, none⟩) (Nat.le_refl _) _).setCell (p := ⟨_, 1, none⟩) (Nat.le_refl _) _)⟩
              | exact ⟨_, E1, E2, k1, k2, f1, f2, AW, kw, cW, E, rfl, rfl, rfl, HB3.out.size, Lib.hid (fun h0 => by obtain ⟨h1, F, h2, h3, h4, h5⟩ := HF3.out h0; exact ⟨h1, F, h2, h3, h4, h5.keep ((Bel.rfl_ _).al _)⟩), Lib.hid (Blk.new _ _ _), Lib.hid (HB3.out.al _)⟩
        case rest =>
        obtain ⟨X, E1, E2, k1, k2, f1, f2, AW, kw, cW, E, rfl, rfl, rfl, hX, HF, HQX, hbc⟩ := hcut
        have hVX : V < wr.heap.size := HH.out.lt
        have HVX : Hid (V < X) := Lib.hid (by omega)
        replace HB := Lib.hid (HB.out.tr hbc.out)
        replace HH := Lib.hid (HH.out.keep hbc.out)
        replace HO : Hid (EvO wc (w.heap.size + 1) (.slice A es.length c) es) := Lib.hid (hbc.out.own HO.out)
        replace HRR := Lib.hid (HRR.out.keep hbc.out)
        clear v0 v1 vf0 vf1 hX hVX hbc HAP hlc HLS
        by_cases hE : E = 0
        rotate_left
        · have dE : (E == 0) = false := beq_eq_false_iff_ne.2 hE
          clear HF
          go_wp2
          go_roundw
          case rel => exact ⟨k + 1, bs, es, A, c, D, by omega, rfl, by go_num, by omega, HES, Lib.hid HST.out.more, HO, HH, HRR, HB⟩
          case measure => simp [intOf]; omega
        · obtain ⟨hl60, F, rfl, rfl, hDF, hVF⟩ := HF.out hE
          subst hE
          have HDF := Lib.hid hDF
          have HVF := Lib.hid hVF
          obtain ⟨D1', b1', D2', b2', hBk, -⟩ := HH.out
          have v0 := hBk.cell (i := 0) (v := .slice D1' D.kept.length b1') rfl
          have v1 := hBk.cell (i := 1) (v := .slice D2' D.written.length b2') rfl
          have vf0 := hBk.frozen 0
          have vf1 := hBk.frozen 1
          have x0 := HQX.out.cell (i := 0) (v := .slice E1 F.kept.length f1) rfl
          have x1 := HQX.out.cell (i := 1) (v := .slice E2 F.written.length f2) rfl
          have HBk := Lib.hid hBk
          clear hDF hVF hBk HF
          go_upto_region 11 with fail
          clear v0 v1 vf0 vf1 x0 x1
          have hVW := HVL.out
          have HVV : Hid (w.heap.size ≤ V) := Lib.hid (by omega)
          have HVN : Hid (w.heap.size ≠ V) := Lib.hid (by omega)
          replace HO : Hid (EvO ((wc.setCell ⟨V, 0, none⟩ (.slice E1 F.kept.length f1)).setCell ⟨V, 1, none⟩ (.slice E2 F.written.length f2)) (w.heap.size + 1) (.slice A es.length c) es) := Lib.hid (own_aside (own_aside HO.out HBk.out (by decide) 0 _) (HBk.out.set_ 0 _) (by decide) 1 _)
          replace HRR := Lib.hid ((HRR.out.far2 HVN.out 0 (.slice E1 F.kept.length f1)).far2 HVN.out 1 (.slice E2 F.written.length f2))
          replace HH := Lib.hid (HoldO.set HH.out HVF.out)
          replace HB : Hid (Bel w ((wc.setCell ⟨V, 0, none⟩ (.slice E1 F.kept.length f1)).setCell ⟨V, 1, none⟩ (.slice E2 F.written.length f2))) := Lib.hid ((HB.out.setCell (p := ⟨V, 0, none⟩) HVV.out (.slice E1 F.kept.length f1)).setCell (p := ⟨V, 1, none⟩) HVV.out (.slice E2 F.written.length f2))
          clear HVF HQX HBk
          generalize (wc.setCell ⟨V, 0, none⟩ (.slice E1 F.kept.length f1)).setCell ⟨V, 1, none⟩ (.slice E2 F.written.length f2) = W2 at *
          have hlc := HB.out.cell HL0.out
          have HE := Lib.hid (HLS0.out.keep HB.out).evsA
          have HSW : Hid (w.heap.size + 1 ≤ W2.heap.size) := Lib.hid (by have := HH.out.lt; omega)
          go_wp2_with (at_builtin; go_loud (refine wpl_appAll W2 rfl (.tmp 45) (.tmp 49) 45 rfl (w.heap.size + 1) elEvL (.slice A es.length c) es.length (evC es) rfl HO.out L l.length cl (evC l) rfl (evC_len l) HE.out.1 HE.out.2 (evs_one l) (by simp only [maxLen]; omega) (by omega) HSW.out ?_); intro v3 w3 hown hg _; rw [← evC_app] at hown; have HO3 := Lib.hid hown; have HG3 := Lib.hid hg; clear hown hg)
          obtain ⟨A3, c3, rfl, -, -⟩ := own_lit HO3.out
          have HG4 : Hid (W2.grownBy w3 (Value.slice A es.length c).ownBlock) := HG3
          refine ⟨⟨k + 1, bs ++ [l], es ++ l, A3, c3, F, by omega, by rw [List.length_append], by go_num, by rw [List.length_append]; omega, Lib.hid (by rw [HES.out]; simp), HDF, Lib.hid ?_, Lib.hid (HH.out.grown HO.out HG4.out), Lib.hid (HRR.out.grown HG4.out (HRR.out.ne_own HO.out (by decide))), Lib.hid (Below.ofGrown HB.out HO.out HG4.out (by omega) (by have := HSW.out; omega))⟩, by simp [intOf]; omega⟩
          unfold EvO
          rw [List.length_append]
          exact HO3.out

end Go.Proofs.Ytkojeofegoljpaa

namespace Go.Proofs.Ytkojeofegoljpaa
open Go.RowKit

theorem encErr_len {l : List Ev} (h : encErr l = 0) : l.length ≤ 4000 := by
  unfold encErr at h
  by_cases h1 : 4000 < l.length
  · rw [if_pos h1] at h; omega
  · omega
theorem encStr_size (l : List Ev) : ok64 (encStr l).size := by
  unfold ok64 encStr
  by_cases h : encErr l = 0
  · rw [if_pos h, strOfNums_size]
    have h1 := encErr_len h
    have h2 : l.all evSmall = true := by
      unfold encErr at h
      rw [if_neg (by omega)] at h
      by_cases hs : l.all evSmall = true
      · exact hs
      · rw [if_neg hs] at h; omega
    have := encCols_len h1 h2 6 (by omega)
    omega
  · rw [if_neg h, strOfNums_size]
    simp

theorem RwD.keep {w w' : World} (h : Bel w w') {B : Nat} {val : Value} (hr : RwD w B val) : RwD w' B val := hr.chg (Chg.bel h (Nat.zero_le _))
theorem RwW.keep {w w' : World} (h : Bel w w') {B n : Nat} {v : Value} (hr : RwW w B v n) : RwW w' B v n := hr.chg (Chg.bel h (Nat.zero_le _))
theorem RwB.keep {w w' : World} (h : Bel w w') {B n : Nat} {v : Value} (hr : RwB w B v n) : RwB w' B v n := hr.chg (Chg.bel h (Nat.zero_le _))
theorem Rw.keep {w w' : World} (h : Bel w w') {B n size : Nat} {e : TypeId} {v : Value} (hr : Rw w B e size v n) : Rw w' B e size v n := hr.chg (Chg.bel h (Nat.zero_le _))
theorem RwD.base {w : World} {B B' : Nat} {val : Value} (h : RwD w B val) (hb : B' ≤ B) : RwD w B' val := by
  obtain ⟨A1, n1, c1, A2, n2, c2, h1, h2, h3⟩ := h
  exact ⟨A1, n1, c1, A2, n2, c2, h1, h2.base hb, h3.base hb⟩
theorem RwB.base {w : World} {B B' n : Nat} {v : Value} (h : RwB w B v n) (hb : B' ≤ B) : RwB w B' v n := by
  obtain ⟨ps, h1, h2, h3⟩ := h
  exact ⟨ps, own_base h1 hb, h2, fun i p hp => (h3 i p hp).imp fun m k => k.base hb⟩
theorem RwW.base {w : World} {B B' n : Nat} {v : Value} (h : RwW w B v n) (hb : B' ≤ B) : RwW w B' v n := by
  obtain ⟨ps, h1, h2, h3⟩ := h
  exact ⟨ps, own_base h1 hb, h2, fun i p hp => (h3 i p hp).base hb⟩

/-- a call that hands back a disk that may be spoilt -/
def DkRet (W : World) (r : Ending) (w' : World) : Prop := ∃ Y1 m1 h1 Y2 m2 h2, r = .returned (.tuple #[.agg #[.slice Y1 m1 h1, .slice Y2 m2 h2], .int .i64 0]) ∧ RwD w' W.heap.size (.agg #[.slice Y1 m1 h1, .slice Y2 m2 h2])
theorem DkRet.of {W w' : World} {d : Dk} {val : Value} {r : Ending} (hr : r = .returned (.tuple #[val, .int .i64 0])) (h : DkO w' W.heap.size d val) (h0 : d.err = 0) : DkRet W r w' := by
  have hk := RwD.of h (Dk.err_small h0).1 (Dk.err_small h0).2
  obtain ⟨A1, c1, A2, c2, rfl, -, -⟩ := h.lit
  exact ⟨_, _, _, _, _, _, hr, hk⟩
theorem crashT_any (d : Dk) (val kv : Value) (l : List Bool) (W : World) (h : DkV W d val) (h0 : d.err = 0) (hks : Sl boolR W kv l) (hkl : l.length ≤ 140737488351232) :
    Calls Try.prog 12 #[val, kv] W fun r w' => DkRet W r w' ∧ Bel W w' :=
  (crashO_any d val kv l W h (Dk.ok_of h0) hks hkl).mono fun _ _ ⟨v, h1, h2, h3⟩ => ⟨DkRet.of (by rw [h1, h0]) h2 (Dk.crashed_of h0 l).1, h3⟩
theorem flushT_any (d : Dk) (val : Value) (W : World) (h : DkV W d val) (h0 : d.err = 0) :
    Calls Try.prog 11 #[val] W fun r w' => DkRet W r w' ∧ Bel W w' :=
  (flushO_any d val W h (Dk.ok_of h0)).mono fun _ _ ⟨v, h1, h2, h3⟩ => ⟨DkRet.of (by rw [h1, h0]) h2 (Dk.flushed_of h0).1, h3⟩
def OpRet (W : World) (bs : List (List Ev)) (r : Ending) (w' : World) : Prop := ∃ AO cO, r = .returned (.tuple #[.slice AO bs.length cO, .int .i64 0]) ∧ RwB w' W.heap.size (.slice AO bs.length cO) bs.length ∧ Sl (Rep.slice evR) w' (.slice AO bs.length cO) bs
theorem openT_any {n : Nat} {d : Dk} {bs : List (List Ev)} {i : Nat} (hd : Dd n d bs i) (val : Value) (W : World) (h : DkV W d val) :
    Calls Try.prog 23 #[val] W fun r w' => OpRet W bs r w' ∧ Bel W w' :=
  (lopen_any d val W h (Dk.ok_of hd.err)).mono fun _ _ ⟨⟨v, h1, _, h3⟩, h4⟩ => by
    refine ⟨?_, h4⟩
    obtain ⟨t, u, hlo, -⟩ := hd.load
    have h0 : opErr d = 0 := by rw [opErr, if_pos hd.err, hlo]
    have h5 := h3 h0 t u bs hlo
    have h6 := RwB.of h5 (fun x hx => by have := hd.small x hx; omega)
    have h7 := h5.sl
    obtain ⟨A, c, rfl, -⟩ := id h7
    exact ⟨A, c, by rw [h1, h0], h6, h7⟩
def DeRet (W : World) (r : Ending) (w' : World) : Prop := ∃ A n c E, r = .returned (.tuple #[.slice A n c, .int .i64 E]) ∧ Rw w' W.heap.size 81 6 (.slice A n c) n
theorem decodeT_any (s : ByteArray) (W : World) (hs : ok64 s.size) :
    Calls Try.prog 32 #[.string s] W fun r w' => DeRet W r w' ∧ Bel W w' :=
  (decodeO_any s W hs).mono fun _ _ ⟨v, h1, ⟨_, h2⟩, h3⟩ => by
    obtain ⟨A, n, c, rfl, h4, h5⟩ := h2
    refine ⟨⟨A, n, c, _, h1, by omega, A, c, rfl, fun hp => ?_⟩, h3⟩
    obtain ⟨g, cur, k1, k2, k3, k4, k5⟩ := h5 hp
    exact ⟨g, cur, k1, k2, k3, k4, k5⟩
theorem sameEvT_any (v u : Value) (xs : List Ev) (W : World) (hx : Sl evR W v xs) (hy : Sl evR W u xs) (hlx : ok64 xs.length) :
    Calls Try.prog 33 #[v, u] W fun r w' => r = .returned (.bool true) ∧ Bel W w' :=
  (sameEvents_any v u xs xs W hx hy hlx hlx).mono fun _ _ ⟨h1, h2⟩ => ⟨by rw [h1]; simp, h2⟩
theorem sameDkT_any (d : Dk) (va vb : Value) (W : World) (ha : DkV W d va) (hb : DkV W d vb) :
    Calls Try.prog 21 #[va, vb] W fun r w' => r = .returned (.bool true) ∧ Bel W w' :=
  (sameDisk_any d d va vb W ha hb).mono fun _ _ ⟨h1, h2⟩ => ⟨by rw [h1, sameDk_self], h2⟩

end Go.Proofs.Ytkojeofegoljpaa
