/- The document's check of trees: walked. Each lemma states its own conditions. -/
import Derived.Test.YtmfjlcpjemccmaaGreatDoorTcs39
import Derived.Test.YtmfjlcpjemccmaaGreatDoorTcs04
namespace Go.Proofs.YtmfjlcpjemccmaaGreatDoor
open Go.RowKit
theorem are_in : ∀ x : TC, (∀ (v : Value) (W : World), Sl tcR W v x.thn → Calls Tryz.prog 41 #[v] W fun r w' => r = .returned (.bool (okCs x.thn)) ∧ Bel W w') ∧
   (∀ (v : Value) (W : World), Sl tcR W v x.els → Calls Tryz.prog 41 #[v] W fun r w' => r = .returned (.bool (okCs x.els)) ∧ Bel W w') := by
 intro x
 induction x using TC.ind with
 | h k a s t i e args thn els ih1 ih2 => exact ⟨fun v W h => are_step thn v W h ih1, fun v W h => are_step els v W h ih2⟩
/-- areCmds -/
theorem are_any (l : List TC) (v : Value) (w : World) (h : Sl tcR w v l) : Calls Tryz.prog 41 #[v] w fun r w' => r = .returned (.bool (okCs l)) ∧ Bel w w' := are_step l v w h fun x _ => are_in x
theorem okFs_cons (f : TF) (l : List TF) : okFs (f :: l) = (f.ok (decide (l.length = 0)) && okFs l) := by
 cases l with
 | nil => simp [okFs]
 | cons g l => simp [okFs]
theorem nmR.cell {w : World} {b o : Nat} {xs : List ByteArray} (h : ∀ k x, xs[k]? = some x → nmR.At w b (o + k * nmR.size) x) {k : Nat} {x : ByteArray} (hk : xs[k]? = some x) : w.cell? ⟨b, o + k, none⟩ = some (.string x) ∧ x.size ≤ maxLen := by
 obtain ⟨cs, ⟨rfl, hx⟩, hcs⟩ := h k x hk
 exact ⟨by simpa [nmR] using hcs 0 _ rfl, hx⟩
theorem tvR.cells {w : World} {b o : Nat} {xs : List TV} (h : ∀ k x, xs[k]? = some x → tvR.At w b (o + k * tvR.size) x) {k : Nat} {x : TV} (hk : xs[k]? = some x) : w.cell? ⟨b, o + k * 2, none⟩ = some (.string x.name) ∧ w.cell? ⟨b, o + k * 2 + 1, none⟩ = some (.int .i64 x.size) ∧ x.name.size ≤ maxLen := by
 obtain ⟨cs, ⟨rfl, hx⟩, hcs⟩ := h k x hk
 exact ⟨hcs 0 _ rfl, hcs 1 _ rfl, hx⟩
set_option maxRecDepth 20000 in
set_option maxHeartbeats 8000000 in
theorem checkTree_any (l : List TF) (v : Value) (w : World) (h : Sl tfR w v l) : Calls Tryz.prog 14 #[.agg #[v]] w fun r w' => r = .returned (.int .i64 (errT l)) ∧ Bel w w' := by
 have HSL := Hi_ h
 have HMN := Hi_ (fun W (hb : Bel w W) => treeMany_any l v W (h.keep hb))
 have HIE := Hi_ (fun (e : TE) (val : Value) W (he : TEV W e val) => isExpr_any e val W he)
 have HBN := Hi_ (fun (n : Int) W => between_any n 0 9999999 W)
 have HAR := Hi_ (fun (l : List TC) (v : Value) W (h : Sl tcR W v l) => are_any l v W h)
 obtain ⟨A, c, rfl, hc, hm, -⟩ := h
 have hll : l.length ≤ 9223372036854775807 := by have := hm.1; simp only [maxLen] at this; omega
 have HQ := Hi_ (Blk.new w 24 #[.slice A l.length c])
 have HB := Hi_ ((Bel.rfl_ w).al (.cells #[.slice A l.length c] 24))
 have HT : Hid (errT l = if many l then 2 else if l.length = 0 then 1 else if okFs l then 0 else 1) := Hi_ rfl
 clear hc hm
 generalize errT l = T at *
 go_enter Tryz.func14, Tryz.ntmps14
 go_upto_region 1 with fail
 generalize w.alloc (.cells #[.slice A l.length c] 24) = W0 at *
 generalize w.heap.size = P at *
 have c0 := HQ.out.cell (i := 0) (v := .slice A l.length c) rfl
 go_wp2_with fail
 refine (HMN.out _ HB.out).mono ?_
 rintro r W1 ⟨rfl, hb1⟩
 replace HB := Hi_ (HB.out.tr hb1)
 replace HQ := Hi_ (HQ.out.keep hb1)
 clear hb1 c0 HMN
 have c0 := HQ.out.cell (i := 0) (v := .slice A l.length c) rfl
 cases hmn : many l with
 | true =>
  rw [hmn, if_pos rfl] at HT
  go_wp2
  go_ret
  exact ⟨by rw [HT.out]; rfl, HB.out⟩
 | false =>
 rw [hmn, if_neg (by decide)] at HT
 by_cases h0 : l.length = 0
 ·have d0 : ((l.length : Int) == 0) = true := by rw [len_nil]; exact decide_eq_true h0
  rw [if_pos h0] at HT
  go_wp2
  go_ret
  exact ⟨by rw [HT.out]; rfl, HB.out⟩
 have d0 : ((l.length : Int) == 0) = false := by rw [len_nil]; exact decide_eq_false h0
 rw [if_neg h0] at HT
 have HT0 : Hid ((if okFs (l.drop 0) then (0 : Int) else 1) = T) := Hi_ HT.out.symm
 clear HT
 go_wp2
 clear c0 d0
 go_loopw [3] (fun i wr => ∃ j : Nat, i = .int .i64 j ∧ j ≤ l.length ∧ Hid ((if okFs (l.drop j) then (0 : Int) else 1) = T) ∧ Hid (Bel w wr) ∧ Hid (Blk wr P 24 #[.slice A l.length c])) (fun i _ => l.length - (intOf i).toNat)
 case atStart => exact ⟨0, rfl, Nat.zero_le _, HT0, HB, HQ⟩
 case round =>
  clear HQ HB
  obtain ⟨j, rfl, hj, HS, HB, HQ⟩ := hrel
  obtain ⟨WO, hWO⟩ : ∃ W, W = wr := ⟨_, rfl⟩
  subst hWO
  clear HT0
  have c0 := HQ.out.cell (i := 0) (v := .slice A l.length c) rfl
  by_cases hlt : j < l.length
  rotate_left
  ·have hdd : decide ((j : Int) < l.length) = false := decide_eq_false (by omega)
   have HR : Hid ((0 : Int) = T) := Hi_ (by rw [← HS.out, List.drop_eq_nil_of_le (by omega)]; rfl)
   go_wp2
   go_ret
   exact ⟨by rw [← HR.out]; rfl, HB.out⟩
  have hdd : decide ((j : Int) < l.length) = true := decide_eq_true (by omega)
  obtain ⟨x, hx⟩ : ∃ x, l[j]? = some x := ⟨_, List.getElem?_eq_getElem hlt⟩
  obtain ⟨b, o, cs, rfl, hcs, hca⟩ := tfAt (HSL.out.keep HB.out) hx
  obtain ⟨MN, hMN⟩ : ∃ m, m = decide (j + 1 = l.length) := ⟨_, rfl⟩
  have HD : Hid ((if (x.ok MN && okFs (l.drop (j + 1))) then (0 : Int) else 1) = T) := Hi_ (by
   rw [← HS.out, List.drop_eq_getElem_cons hlt, okFs_cons, (List.getElem?_eq_some_iff.1 hx).2, hMN, List.length_drop]
   congr 4
   exact decide_eq_decide.2 (by omega))
  have i0 : (0 : Int) ≤ j := by omega
  have i1 : (j : Int) < l.length := by omega
  have HCS := Hi_ hcs
  have HCA := Hi_ hca
  clear hcs hca hx HS HSL
  go_upto_region 9 with (refine copyTF (.tmp 24) (.tmp 4) (.tmp 25) rfl rfl rfl rfl rfl rfl b (o + j * 10) (by exact rfl) cs HCA.out HCS.out (by exact rfl) (by exact rfl) ?_)
  clear c0
  have HBW := Hi_ ((Bel.rfl_ WO).al (.cells cs.toArray 51))
  have HK := Hi_ (Blk.new WO 51 cs.toArray)
  obtain ⟨vp, vv, vc, vr, rfl, hxn, hrn, hsp, hsv, hsc, hsr⟩ := HCS.out
  clear HCS HCA
  generalize hW1 : WO.alloc _ = WB at *
  clear hW1
  generalize WO.heap.size = G at *
  have HRV : Hid (∀ W, Bel WB W → TEV W x.result (.agg #[.int .i64 x.result.kind, .int .i64 x.result.at_, .int .i64 x.result.n, .string x.result.name, vr])) := Hi_ fun W hb => ⟨_, rfl, hrn, hsr.keep (HBW.out.tr hb)⟩
  have hla : x.result.args.length ≤ maxLen := by obtain ⟨_, _, -, h1, h2, -⟩ := hsr; omega
  have HRN := Hi_ (fun W hb => noExpr_any x.result _ W (HRV.out W hb) hla)
  have HNM := Hi_ (fun W => isName_any x.name W hxn)
  have HSP := Hi_ (hsp.keep HBW.out)
  have HSV := Hi_ (hsv.keep HBW.out)
  have HCC := Hi_ (fun W hb => HAR.out x.cmds vc W (hsc.keep (HBW.out.tr hb)))
  obtain ⟨Ap, cp, rfl, hp1, hp2, -⟩ := hsp
  obtain ⟨Av, cv, rfl, hv1, hv2, -⟩ := hsv
  obtain ⟨Ac, cc, rfl, -⟩ := hsc
  obtain ⟨Ar, cr, rfl, -⟩ := hsr
  have hpl : x.params.length ≤ 9223372036854775807 := by have := hp2.1; simp only [maxLen] at this; omega
  have hvl : x.vars.length ≤ 9223372036854775807 := by have := hv2.1; simp only [maxLen] at this; omega
  clear hxn hrn hla hp1 hp2 hv1 hv2 HAR
  have HOK : Hid (x.ok MN = ((if MN then decide (x.name = emp) && x.result.none_ && decide (x.params.length = 0) else isName x.name && x.result.ok) && x.params.all isName && x.vars.all TV.ok && x.cmds.all TC.ok)) := Hi_ rfl
  rw [← str_nil, ← len_nil, ← okCs_all] at HOK
  obtain ⟨OK0, ok0⟩ : ∃ b, b = (if MN then (x.name.toList == []) && x.result.none_ && ((x.params.length : Int) == 0) else isName x.name && x.result.ok) := ⟨_, rfl⟩
  rw [← ok0] at HOK
  generalize x.name = xs at *
  generalize x.result.kind = rk at *
  generalize x.result.at_ = ra at *
  generalize x.result.n = rn at *
  generalize x.result.name = rs at *
  have HX := Hi_ (Bel.rfl_ WB)
  have HKC : Hid (∀ W, Bel WB W → W.cell? ⟨G, 1, none⟩ = some (.string xs) ∧ W.cell? ⟨G, 2, none⟩ = some (.slice Ap x.params.length cp) ∧ W.cell? ⟨G, 3, none⟩ = some (.slice Av x.vars.length cv) ∧ W.cell? ⟨G, 4, none⟩ = some (.slice Ac x.cmds.length cc) ∧
   W.cell? ⟨G, 5, none⟩ = some (.int .i64 rk) ∧ W.cell? ⟨G, 6, none⟩ = some (.int .i64 ra) ∧ W.cell? ⟨G, 7, none⟩ = some (.int .i64 rn) ∧ W.cell? ⟨G, 8, none⟩ = some (.string rs) ∧ W.cell? ⟨G, 9, none⟩ = some (.slice Ar x.result.args.length cr)) := Hi_ fun W hb => by
   have h := HK.out.keep hb
   exact ⟨h.cell rfl, h.cell rfl, h.cell rfl, h.cell rfl, h.cell rfl, h.cell rfl, h.cell rfl, h.cell rfl, h.cell rfl⟩
  clear HK
  simp only [Act.put, lA, lB, lC]
  go_cut [5] from 26 to 33 (fun s wx => s = .bool (isName xs && x.result.ok) ∧ Hid (Bel WB wx))
  case first =>
   obtain ⟨p1, p2, p3, p4, p5, p6, p7, p8, p9⟩ := HKC.out _ HX.out
   go_wp2_with fail
   refine (HNM.out _).mono ?_
   rintro r W2 ⟨rfl, hb2⟩
   replace HX := Hi_ (HX.out.tr hb2)
   clear hb2 p1 p2 p3 p4 p5 p6 p7 p8 p9
   obtain ⟨p1, p2, p3, p4, p5, p6, p7, p8, p9⟩ := HKC.out _ HX.out
   clear p1 p2 p3 p4
   cases hn : isName xs with
   | false =>
    go_wp2
    go_meet
    exact ⟨by rw [hn]; rfl, HX⟩
   | true =>
    go_wp2_with fail
    refine (HIE.out x.result _ _ (HRV.out _ HX.out)).mono ?_
    rintro r W3 ⟨rfl, hb3⟩
    replace HX := Hi_ (HX.out.tr hb3)
    clear hb3
    go_wp2
    go_meet
    exact ⟨by rw [hn]; rfl, HX⟩
  case rest =>
  clear HX
  obtain ⟨rfl, HX⟩ := hcut
  have c0 := HQ.out.keep (HBW.out.tr HX.out) |>.cell (i := 0) (v := .slice (some ⟨b, o, none⟩) l.length c) rfl
  have hwl : IntKind.i64.wrap ((l.length : Int) - 1) = (l.length : Int) - 1 := by rw [IntKind.wrap_i64]; omega
  have hmj : ((j : Int) == (l.length : Int) - 1) = MN := by
   rw [hMN]
   by_cases h : j + 1 = l.length
   ·rw [decide_eq_true h]; simp; omega
   ·rw [decide_eq_false h]; simp; omega
  clear hMN
  go_upto_if 39 with fail
  clear c0 hwl hmj
  go_cut [5] from 40 to 53 (fun s wx => s = .bool OK0 ∧ Hid (Bel WB wx))
  case first =>
   obtain ⟨p1, p2, p3, p4, p5, p6, p7, p8, p9⟩ := HKC.out _ HX.out
   cases MN with
   | false =>
    have hok : Hid (OK0 = (isName xs && x.result.ok)) := Hi_ ok0
    clear ok0
    go_wp2
    go_meet
    exact ⟨by rw [hok.out], HX⟩
   | true =>
    have hok : Hid (OK0 = ((xs.toList == []) && x.result.none_ && ((x.params.length : Int) == 0))) := Hi_ ok0
    clear ok0
    cases hn : (xs.toList == []) with
    | false =>
     rw [hn, Bool.false_and, Bool.false_and] at hok
     go_wp2
     go_meet
     exact ⟨by rw [hok.out], HX⟩
    | true =>
     rw [hn, Bool.true_and] at hok
     go_wp2_with fail
     refine (HRN.out _ HX.out).mono ?_
     rintro r W3 ⟨rfl, hb3⟩
     replace HX := Hi_ (HX.out.tr hb3)
     clear hb3 p1 p2 p3 p4 p5 p6 p7 p8 p9
     obtain ⟨p1, p2, p3, p4, p5, p6, p7, p8, p9⟩ := HKC.out _ HX.out
     cases hr : x.result.none_ with
     | false =>
      rw [hr, Bool.false_and] at hok
      go_wp2
      go_meet
      exact ⟨by rw [hok.out], HX⟩
     | true =>
      rw [hr, Bool.true_and] at hok
      go_wp2
      go_meet
      exact ⟨by rw [hok.out], HX⟩
  case rest =>
  clear HX ok0
  obtain ⟨rfl, HX⟩ := hcut
  go_wp2
  go_loopw [5, 6] (fun a i wx => ∃ (m : Nat) (bb : Bool), a = .bool bb ∧ i = .int .i64 m ∧ m ≤ x.params.length ∧ Hid ((bb && (x.params.drop m).all isName) = (OK0 && x.params.all isName)) ∧ Hid (Bel WB wx)) (fun _ i _ => x.params.length - (intOf i).toNat)
  case atStart => exact ⟨0, OK0, rfl, rfl, Nat.zero_le _, Hi_ (by rw [List.drop_zero]), HX⟩
  case round =>
   clear HX
   obtain ⟨m, bb, rfl, rfl, hm, HAN, HX⟩ := hrel
   obtain ⟨p1, p2, p3, p4, p5, p6, p7, p8, p9⟩ := HKC.out _ HX.out
   clear p1 p3 p4 p5 p6 p7 p8 p9
   by_cases hkl : m < x.params.length
   ·have hkd : decide ((m : Int) < x.params.length) = true := decide_eq_true (by omega)
    obtain ⟨y, hy⟩ : ∃ y, x.params[m]? = some y := ⟨_, List.getElem?_eq_getElem hkl⟩
    have hdr : (x.params.drop m).all isName = (isName y && (x.params.drop (m + 1)).all isName) := by rw [List.drop_eq_getElem_cons hkl, List.all_cons, (List.getElem?_eq_some_iff.1 hy).2]
    cases bb with
    | false =>
     have HAN2 : Hid ((false && (x.params.drop (m + 1)).all isName) = (OK0 && x.params.all isName)) := Hi_ (by rw [← HAN.out]; rfl)
     clear HAN hdr hy
     go_wp2
     go_roundw
     case rel => exact ⟨m + 1, false, rfl, by go_num, by omega, HAN2, HX⟩
     case measure => simp [intOf]; omega
    | true =>
     have HAN2 : Hid ((isName y && (x.params.drop (m + 1)).all isName) = (OK0 && x.params.all isName)) := Hi_ (by rw [← HAN.out, hdr, Bool.true_and])
     obtain ⟨ba, oa, rfl, hA⟩ := Sl.lies (r := nmR) HSP.out (by omega)
     obtain ⟨y0, ny⟩ := nmR.cell hA hy
     have HYN := Hi_ (fun W => isName_any y W ny)
     have y0 := HX.out.cell y0
     have j0 : (0 : Int) ≤ m := by omega
     have j1 : (m : Int) < x.params.length := by omega
     clear hA hy ny hdr HAN
     go_wp2_with fail
     refine (HYN.out _).mono ?_
     rintro r W5 ⟨rfl, hb5⟩
     replace HX := Hi_ (HX.out.tr hb5)
     clear hb5 y0 p2
     go_wp2
     go_roundw
     case rel => exact ⟨m + 1, isName y, rfl, by go_num, by omega, HAN2, HX⟩
     case measure => simp [intOf]; omega
   ·have hkd : decide ((m : Int) < x.params.length) = false := decide_eq_false (by omega)
    have HAP : Hid (bb = (OK0 && x.params.all isName)) := Hi_ (by rw [← HAN.out, List.drop_eq_nil_of_le (by omega), List.all_nil, Bool.and_true])
    clear HAN
    go_wp2
    go_loopw [5, 7] (fun a i wx => ∃ (m : Nat) (b2 : Bool), a = .bool b2 ∧ i = .int .i64 m ∧ m ≤ x.vars.length ∧ Hid ((b2 && (x.vars.drop m).all TV.ok) = (bb && x.vars.all TV.ok)) ∧ Hid (Bel WB wx)) (fun _ i _ => x.vars.length - (intOf i).toNat)
    case atStart => exact ⟨0, bb, rfl, rfl, Nat.zero_le _, Hi_ (by rw [List.drop_zero]), HX⟩
    case round =>
     clear HX p2
     obtain ⟨n, b2, rfl, rfl, hn, HAN, HX⟩ := hrel
     obtain ⟨p1, p2, p3, p4, p5, p6, p7, p8, p9⟩ := HKC.out _ HX.out
     clear p1 p2 p5 p6 p7 p8 p9
     by_cases hnl : n < x.vars.length
     ·have hnd : decide ((n : Int) < x.vars.length) = true := decide_eq_true (by omega)
      obtain ⟨y, hy⟩ : ∃ y, x.vars[n]? = some y := ⟨_, List.getElem?_eq_getElem hnl⟩
      have hdr : (x.vars.drop n).all TV.ok = (y.ok && (x.vars.drop (n + 1)).all TV.ok) := by rw [List.drop_eq_getElem_cons hnl, List.all_cons, (List.getElem?_eq_some_iff.1 hy).2]
      cases b2 with
      | false =>
       have HAN2 : Hid ((false && (x.vars.drop (n + 1)).all TV.ok) = (bb && x.vars.all TV.ok)) := Hi_ (by rw [← HAN.out]; rfl)
       clear HAN hdr hy
       go_wp2
       go_roundw
       case rel => exact ⟨n + 1, false, rfl, by go_num, by omega, HAN2, HX⟩
       case measure => simp [intOf]; omega
      | true =>
       have HAN2 : Hid ((y.ok && (x.vars.drop (n + 1)).all TV.ok) = (bb && x.vars.all TV.ok)) := Hi_ (by rw [← HAN.out, hdr, Bool.true_and])
       have HYO : Hid (y.ok = (isName y.name && decide (0 ≤ y.size ∧ y.size ≤ 9999999))) := Hi_ rfl
       obtain ⟨ba, oa, rfl, hA⟩ := Sl.lies (r := tvR) HSV.out (by omega)
       obtain ⟨y0, y1, ny⟩ := tvR.cells hA hy
       have HYN := Hi_ (fun W => isName_any y.name W ny)
       have HYC := Hi_ (fun W (hb : Bel WB W) => And.intro (hb.cell y0) (hb.cell y1))
       obtain ⟨z0, z1⟩ := HYC.out _ HX.out
       have j0 : (0 : Int) ≤ n := by omega
       have j1 : (n : Int) < x.vars.length := by omega
       clear hA hy ny hdr HAN y0 y1
       go_wp2_with fail
       refine (HYN.out _).mono ?_
       rintro r W5 ⟨rfl, hb5⟩
       replace HX := Hi_ (HX.out.tr hb5)
       clear hb5 z0 z1 p3 p4
       obtain ⟨z0, z1⟩ := HYC.out _ HX.out
       obtain ⟨p1, p2, p3, p4, p5, p6, p7, p8, p9⟩ := HKC.out _ HX.out
       clear p1 p2 p4 p5 p6 p7 p8 p9
       cases hyn : isName y.name with
       | false =>
        rw [hyn, Bool.false_and] at HYO
        have HAN3 : Hid ((false && (x.vars.drop (n + 1)).all TV.ok) = (bb && x.vars.all TV.ok)) := Hi_ (by rw [← HAN2.out, HYO.out])
        go_wp2
        go_roundw
        case rel => exact ⟨n + 1, false, rfl, by go_num, by omega, HAN3, HX⟩
        case measure => simp [intOf]; omega
       | true =>
        rw [hyn, Bool.true_and] at HYO
        go_wp2_with fail
        refine (HBN.out y.size _).mono ?_
        rintro r W6 ⟨rfl, rfl⟩
        have HAN3 : Hid ((decide (0 ≤ y.size ∧ y.size ≤ 9999999) && (x.vars.drop (n + 1)).all TV.ok) = (bb && x.vars.all TV.ok)) := Hi_ (by rw [← HAN2.out, HYO.out])
        generalize decide (0 ≤ y.size ∧ y.size ≤ 9999999) = b4 at *
        go_wp2
        go_roundw
        case rel => exact ⟨n + 1, b4, rfl, by go_num, by omega, HAN3, HX⟩
        case measure => simp [intOf]; omega
     ·have hnd : decide ((n : Int) < x.vars.length) = false := decide_eq_false (by omega)
      have HAV : Hid (b2 = (bb && x.vars.all TV.ok)) := Hi_ (by rw [← HAN.out, List.drop_eq_nil_of_le (by omega), List.all_nil, Bool.and_true])
      have HOK2 : Hid (x.ok MN = (b2 && okCs x.cmds)) := Hi_ (by rw [HOK.out, HAV.out, HAP.out])
      clear HAN HAV HAP HOK
      cases b2 with
      | false =>
       have HR : Hid ((1 : Int) = T) := Hi_ (by rw [← HD.out, HOK2.out]; rfl)
       go_wp2
       go_ret
       exact ⟨by rw [← HR.out]; rfl, HB.out.tr (HBW.out.tr HX.out)⟩
      | true =>
       rw [Bool.true_and] at HOK2
       go_wp2_with fail
       refine (HCC.out _ HX.out).mono ?_
       rintro r W7 ⟨rfl, hb7⟩
       replace HX := Hi_ (HX.out.tr hb7)
       clear hb7 p4
       cases hco : okCs x.cmds with
       | false =>
        have HR : Hid ((1 : Int) = T) := Hi_ (by rw [← HD.out, HOK2.out, hco]; rfl)
        go_wp2
        go_ret
        exact ⟨by rw [← HR.out]; rfl, HB.out.tr (HBW.out.tr HX.out)⟩
       | true =>
        have HS2 : Hid ((if okFs (l.drop (j + 1)) then (0 : Int) else 1) = T) := Hi_ (by rw [← HD.out, HOK2.out, hco, Bool.true_and])
        have HQ2 := Hi_ (HQ.out.keep (HBW.out.tr HX.out))
        go_wp2
        go_roundw
        case rel => exact ⟨j + 1, by go_num, by omega, HS2, Hi_ (HB.out.tr (HBW.out.tr HX.out)), HQ2⟩
        case measure => simp [intOf]; omega
end Go.Proofs.YtmfjlcpjemccmaaGreatDoor
