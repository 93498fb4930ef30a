/- Are two trees the same, by the document: walked. Each lemma states its own conditions. -/
import Derived.Test.YtmfjlcpjemccmaaGreatDoorTts37
import Derived.Test.YtmfjlcpjemccmaaGreatDoorTts35
namespace Go.Proofs.YtmfjlcpjemccmaaGreatDoor
open Go.RowKit
theorem sameCs_in (f : Bool) : ∀ x : TC, (∀ (l : List TC) (va vb : Value) (W : World), Sl tcR W va x.thn → Sl tcR W vb l → Calls Tryz.prog 48 #[va, vb, .bool f] W fun r w' => r = .returned (.bool (sameCs f x.thn l)) ∧ Bel W w') ∧
   (∀ (l : List TC) (va vb : Value) (W : World), Sl tcR W va x.els → Sl tcR W vb l → Calls Tryz.prog 48 #[va, vb, .bool f] W fun r w' => r = .returned (.bool (sameCs f x.els l)) ∧ Bel W w') := by
 intro x
 induction x using TC.ind with
 | h k a s t i e args thn els ih1 ih2 => exact ⟨fun l va vb W h1 h2 => sameCs_step f thn l va vb W h1 h2 ih1, fun l va vb W h1 h2 => sameCs_step f els l va vb W h1 h2 ih2⟩
/-- sameTreeCmds -/
theorem sameCs_any (f : Bool) (xs ys : List TC) (va vb : Value) (w : World) (ha : Sl tcR w va xs) (hb : Sl tcR w vb ys) : Calls Tryz.prog 48 #[va, vb, .bool f] w fun r w' => r = .returned (.bool (sameCs f xs ys)) ∧ Bel w w' :=
 sameCs_step f xs ys va vb w ha hb fun x _ => sameCs_in f x
theorem rb_neqV {o : Oper} {ρ : Operand → Value} {W : World} {x y : Operand} {t2 : TypeId} {k l : Int} {s u : ByteArray} {c d : Bool} (ho : o.op = .binOp .neq 55 x y t2) (hx : ρ x = .agg #[.string s, .int .i64 k]) (hy : ρ y = .agg #[.string u, .int .i64 l]) (h1 : (s.toList == u.toList) = c) (h2 : (k == l) = d) :
  (execOp ρ o).run Tryz.prog W = .ok (.value (.bool (!(c && d)))) W := by
 subst h1 h2
 simp [execOp, ho, hx, hy, go_sem]
 by_cases e1 : s.toList = u.toList
 ·by_cases e2 : k = l
  ·simp [e1, e2]
  ·simp [e1, e2]
 ·simp [e1]
/-- what is compared first of two functions -/
def TF.head (f : Bool) (x y : TF) : Bool := (!f || decide (x.at_ = y.at_)) && (decide (x.name = y.name) && (decide (x.params.length = y.params.length) && (decide (x.vars.length = y.vars.length) && (sameCs f x.cmds y.cmds && x.result.same f y.result))))
theorem TF.same_head (f : Bool) (x y : TF) : x.same f y = (x.head f y && (decide (x.params = y.params) && decide (x.vars = y.vars))) := by
 unfold TF.same TF.head
 by_cases hp : x.params = y.params
 ·by_cases hv : x.vars = y.vars
  ·rw [decide_eq_true hp, decide_eq_true hv, decide_eq_true (congrArg List.length hp), decide_eq_true (congrArg List.length hv)]
   simp
  ·rw [decide_eq_false hv]
   simp
 ·rw [decide_eq_false hp]
  simp
set_option maxRecDepth 20000 in
set_option maxHeartbeats 8000000 in
theorem sameTree_any (f : Bool) (xs ys : List TF) (va vb : Value) (w : World) (ha : Sl tfR w va xs) (hb : Sl tfR w vb ys) :
  Calls Tryz.prog 18 #[.agg #[va], .agg #[vb], .bool f] w fun r w' => r = .returned (.bool (sameFs f xs ys)) ∧ Bel w w' := by
 have HSA := Hi_ ha
 have HSB := Hi_ hb
 obtain ⟨A, c, rfl, hc, hm, -⟩ := ha
 obtain ⟨B, d, rfl, hd, hm2, -⟩ := hb
 have hl1 : xs.length ≤ 9223372036854775807 := by have := hm.1; simp only [maxLen] at this; omega
 have hl2 : ys.length ≤ 9223372036854775807 := by have := hm2.1; simp only [maxLen] at this; omega
 have HB0 := Hi_ (((Bel.rfl_ w).al (.cells #[.slice A xs.length c] 24)).al (.cells #[.slice B ys.length d] 24))
 have HP1 := Hi_ ((Blk.new w 24 #[.slice A xs.length c]).keep ((Bel.rfl_ _).al (.cells #[.slice B ys.length d] 24)))
 have HP2 := Hi_ (Blk.new (w.alloc (.cells #[.slice A xs.length c] 24)) 24 #[.slice B ys.length d])
 rw [World.size_alloc] at HP2
 clear hm hm2 hc hd
 have HT : Hid (sameFs f (xs.drop 0) (ys.drop 0) = sameFs f xs ys) := Hi_ rfl
 have HTN : Hid (xs.length ≠ ys.length → sameFs f xs ys = false) := Hi_ fun h => sameFs_len h
 generalize sameFs f xs ys = T at *
 go_enter Tryz.func18, Tryz.ntmps18
 go_upto_region 1 with fail
 generalize (w.alloc (.cells #[.slice A xs.length c] 24)).alloc (.cells #[.slice B ys.length d] 24) = W0 at *
 generalize w.heap.size + 1 = P2 at *
 generalize w.heap.size = P1 at *
 have t1 := HP1.out.cell (i := 0) (v := .slice A xs.length c) rfl
 have t2 := HP2.out.cell (i := 0) (v := .slice B ys.length d) rfl
 by_cases hlen : xs.length = ys.length
 rotate_left
 ·have HT := Hi_ (HTN.out hlen)
  have d0 : ((xs.length : Int) != ys.length) = true := by simp; omega
  clear hlen
  go_wp2
  go_ret
  exact ⟨by rw [HT.out]; rfl, HB0.out⟩
 have d0 : ((xs.length : Int) != ys.length) = false := by simp; omega
 have HLE := Hi_ hlen
 clear hlen HTN
 go_wp2
 clear t1 t2 d0
 go_loopw [7] (fun t wr => ∃ j : Nat, j ≤ xs.length ∧ t = .int .i64 j ∧ Hid (sameFs f (xs.drop j) (ys.drop j) = T) ∧ Hid (Bel w wr) ∧ Hid (Blk wr P1 24 #[.slice A xs.length c]) ∧ Hid (Blk wr P2 24 #[.slice B ys.length d])) (fun t _ => xs.length - (intOf t).toNat)
 case atStart => exact ⟨0, by omega, rfl, HT, HB0, HP1, HP2⟩
 case round =>
  clear HP1 HP2 HB0 HT
  obtain ⟨j, hj, rfl, HS, HB, HP1, HP2⟩ := hrel
  obtain ⟨WO, hWO⟩ : ∃ W, W = wr := ⟨_, rfl⟩
  subst hWO
  have t1 := HP1.out.cell (i := 0) (v := .slice A xs.length c) rfl
  by_cases hlt : j < xs.length
  rotate_left
  ·have hdd : decide ((j : Int) < xs.length) = false := decide_eq_false (by omega)
   have HR : Hid (true = T) := Hi_ (by rw [← HS.out, sameFs_end (by omega) (by have := HLE.out; omega)])
   go_wp2
   go_ret
   exact ⟨by rw [← HR.out]; rfl, HB.out⟩
  have hdd : decide ((j : Int) < xs.length) = true := decide_eq_true (by omega)
  have hlt2 : j < ys.length := by have := HLE.out; omega
  obtain ⟨x, hx⟩ : ∃ x, xs[j]? = some x := ⟨_, List.getElem?_eq_getElem hlt⟩
  obtain ⟨y, hy⟩ : ∃ y, ys[j]? = some y := ⟨_, List.getElem?_eq_getElem hlt2⟩
  obtain ⟨b, o, cs, rfl, hcs, hca⟩ := tfAt (HSA.out.keep HB.out) hx
  obtain ⟨b', o', cs', rfl, hcs', hca'⟩ := tfAt (HSB.out.keep HB.out) hy
  have HD : Hid ((x.same f y && sameFs f (xs.drop (j + 1)) (ys.drop (j + 1))) = T) := Hi_ (by rw [← sameFs_drop hx hy]; exact HS.out)
  have i0 : (0 : Int) ≤ j := by omega
  have i1 : (j : Int) < xs.length := by omega
  have i2 : (j : Int) < ys.length := by omega
  have HCS : Hid (tfR.R WO cs x) := Hi_ hcs
  have HCA := Hi_ hca
  have HCS' : Hid (tfR.R WO cs' y) := Hi_ hcs'
  have HCA' := Hi_ hca'
  clear hcs hca hcs' hca' hx hy HS HSA HSB
  go_upto_region 6 with fail
  clear t1
  go_cut [8, 9] from 19 to 35 (fun p q wx => ∃ G1 G2 : Nat, p = .pointer (some ⟨G1, 0, none⟩) ∧ q = .pointer (some ⟨G2, 0, none⟩) ∧ Hid (Bel WO wx) ∧ Hid (Blk wx G1 51 cs.toArray) ∧ Hid (Blk wx G2 51 cs'.toArray))
  case first =>
   refine wp_region_held_drew (S := fun W => Bel WO W) (by kernel_rfl) ((Bel.rfl_ WO).dr) (fun hS => ?_)
   refine rt_t (i := 0) (some 26) (.pointer (some ⟨P1, 0, none⟩)) rfl hS (fun W _ => by kernel_rfl) ?_
   refine rt_t (i := 1) (some 27) (.slice (some ⟨b, o, none⟩) xs.length c) rfl hS (fun W hb => rl_fs_ ((HP1.out.keep hb).cell (i := 0) rfl)) ?_
   refine rt_t (i := 2) (some 28) (.int .i64 j) rfl hS (fun W _ => by kernel_rfl) ?_
   refine rt_t (i := 3) (some 29) (.pointer (some ⟨b, o + j * 10, none⟩)) rfl hS (fun W _ => by go_simp) ?_
   refine rt_t (i := 4) (some 30) (.agg cs.toArray) rfl hS (fun W hb => run_loadRow 51 (.tmp 29) rfl elTF b (o + j * 10) (by kernel_rfl) cs (HCA.out.keep hb) (tfR.len HCS.out) (by kernel_rfl)) ?_
   refine rt_t (i := 5) (some 31) (.pointer (some ⟨P2, 0, none⟩)) rfl hS (fun W _ => by kernel_rfl) ?_
   refine rt_t (i := 6) (some 32) (.slice (some ⟨b', o', none⟩) ys.length d) rfl hS (fun W hb => rl_fs_ ((HP2.out.keep hb).cell (i := 0) rfl)) ?_
   refine rt_t (i := 7) (some 33) (.int .i64 j) rfl hS (fun W _ => by kernel_rfl) ?_
   refine rt_t (i := 8) (some 34) (.pointer (some ⟨b', o' + j * 10, none⟩)) rfl hS (fun W _ => by go_simp) ?_
   refine rt_t (i := 9) (some 35) (.agg cs'.toArray) rfl hS (fun W hb => run_loadRow 51 (.tmp 34) rfl elTF b' (o' + j * 10) (by kernel_rfl) cs' (HCA'.out.keep hb) (tfR.len HCS'.out) (by kernel_rfl)) ?_
   refine st_two (i := 10) (j := 11) (by kernel_rfl) ?_ ?_
   ·refine st_alloc (some 8) rfl rfl 51 rfl rfl elTF ?_
    intro z hz
    replace hS := hS.al (.cells z 51)
    refine ⟨hS, ?_⟩
    have bx := Blk.new WO.drew 51 z
    refine st_one (i := 11) (by kernel_rfl) ?_
    refine st_alloc (some 9) rfl rfl 51 rfl rfl elTF ?_
    intro y' hy'
    replace hS := hS.al (.cells y' 51)
    refine ⟨hS, ?_⟩
    have by_ := Blk.new (WO.drew.alloc (.cells z 51)) 51 y'
    replace bx := bx.keep ((Bel.rfl_ _).al (.cells y' 51))
    have hne : WO.drew.heap.size ≠ (WO.drew.alloc (.cells z 51)).heap.size := by simp
    refine st_one (i := 12) (by kernel_rfl) ?_
    replace hS := hS.row (G := WO.drew.heap.size) (by simp) cs.toArray
    refine st_store none rfl rfl 51 (.tmp 8) (.tmp 30) rfl rfl elTF WO.drew.heap.size cs (by kernel_rfl) (by kernel_rfl) bx hz (tfR.len HCS.out) (tfR_one HCS.out) hS ?_
    replace bx := bx.row_same cs.toArray
    replace by_ := by_.row_other hne.symm cs.toArray
    refine st_one (i := 13) (by kernel_rfl) ?_
    replace hS := hS.row (G := (WO.drew.alloc (.cells z 51)).heap.size) (by simp) cs'.toArray
    refine st_store none rfl rfl 51 (.tmp 9) (.tmp 35) rfl rfl elTF (WO.drew.alloc (.cells z 51)).heap.size cs' (by kernel_rfl) (by kernel_rfl) by_ hy' (tfR.len HCS'.out) (tfR_one HCS'.out) hS ?_
    replace by_ := by_.row_same cs'.toArray
    replace bx := bx.row_other hne cs'.toArray
    refine wpAnyH_done (by kernel_rfl) ?_ _
    try simp only [Act.put, lA, lB, lC]
    try go_wp2
    go_meet
    exact ⟨WO.drew.heap.size, (WO.drew.alloc (.cells z 51)).heap.size, rfl, rfl, Hi_ hS, Hi_ bx, Hi_ by_⟩
   ·refine st_alloc (some 9) rfl rfl 51 rfl rfl elTF ?_
    intro y' hy'
    replace hS := hS.al (.cells y' 51)
    refine ⟨hS, ?_⟩
    have by_ := Blk.new WO.drew 51 y'
    refine st_one (i := 10) (by kernel_rfl) ?_
    refine st_alloc (some 8) rfl rfl 51 rfl rfl elTF ?_
    intro z hz
    replace hS := hS.al (.cells z 51)
    refine ⟨hS, ?_⟩
    have bx := Blk.new (WO.drew.alloc (.cells y' 51)) 51 z
    replace by_ := by_.keep ((Bel.rfl_ _).al (.cells z 51))
    have hne : WO.drew.heap.size ≠ (WO.drew.alloc (.cells y' 51)).heap.size := by simp
    refine st_one (i := 12) (by kernel_rfl) ?_
    replace hS := hS.row (G := (WO.drew.alloc (.cells y' 51)).heap.size) (by simp) cs.toArray
    refine st_store none rfl rfl 51 (.tmp 8) (.tmp 30) rfl rfl elTF (WO.drew.alloc (.cells y' 51)).heap.size cs (by kernel_rfl) (by kernel_rfl) bx hz (tfR.len HCS.out) (tfR_one HCS.out) hS ?_
    replace bx := bx.row_same cs.toArray
    replace by_ := by_.row_other hne cs.toArray
    refine st_one (i := 13) (by kernel_rfl) ?_
    replace hS := hS.row (G := WO.drew.heap.size) (by simp) cs'.toArray
    refine st_store none rfl rfl 51 (.tmp 9) (.tmp 35) rfl rfl elTF WO.drew.heap.size cs' (by kernel_rfl) (by kernel_rfl) by_ hy' (tfR.len HCS'.out) (tfR_one HCS'.out) hS ?_
    replace by_ := by_.row_same cs'.toArray
    replace bx := bx.row_other hne.symm cs'.toArray
    refine wpAnyH_done (by kernel_rfl) ?_ _
    try simp only [Act.put, lA, lB, lC]
    try go_wp2
    go_meet
    exact ⟨(WO.drew.alloc (.cells y' 51)).heap.size, WO.drew.heap.size, rfl, rfl, Hi_ hS, Hi_ bx, Hi_ by_⟩
  case rest =>
   obtain ⟨G1, G2, rfl, rfl, HX, HK1, HK2⟩ := hcut
   obtain ⟨WB, hWB⟩ : ∃ W, W = wc := ⟨_, rfl⟩
   subst hWB
   obtain ⟨vp, vv, vc, vr, rfl, -, hrn, hsp, hsv, hsc, hsr⟩ := HCS.out
   obtain ⟨vp', vv', vc', vr', rfl, -, hrn', hsp', hsv', hsc', hsr'⟩ := HCS'.out
   clear HCS HCA HCS' HCA'
   have HXO := HX
   have HFR : Hid (∀ W, Bel WB W → Calls Tryz.prog 49 #[.agg #[.int .i64 x.result.kind, .int .i64 x.result.at_, .int .i64 x.result.n, .string x.result.name, vr], .agg #[.int .i64 y.result.kind, .int .i64 y.result.at_, .int .i64 y.result.n, .string y.result.name, vr'], .bool f] W fun r w' => r = .returned (.bool (x.result.same f y.result)) ∧ Bel W w') := Hi_ fun W hb => sameE_any f x.result y.result _ _ W ⟨_, rfl, hrn, hsr.keep (HXO.out.tr hb)⟩ ⟨_, rfl, hrn', hsr'.keep (HXO.out.tr hb)⟩
   have HFC := Hi_ (fun W (hb : Bel WB W) => sameCs_any f x.cmds y.cmds vc vc' W (hsc.keep (HXO.out.tr hb)) (hsc'.keep (HXO.out.tr hb)))
   have HSP := Hi_ (hsp.keep HXO.out)
   have HSP' := Hi_ (hsp'.keep HXO.out)
   have HSV := Hi_ (hsv.keep HXO.out)
   have HSV' := Hi_ (hsv'.keep HXO.out)
   obtain ⟨Ap, acp, rfl, hp1, hp2, -⟩ := hsp
   obtain ⟨Av, acv, rfl, hv1, hv2, -⟩ := hsv
   obtain ⟨Ac, acc, rfl, -⟩ := hsc
   obtain ⟨Ar, acr, rfl, -⟩ := hsr
   obtain ⟨Bp, bcp, rfl, -⟩ := hsp'
   obtain ⟨Bv, bcv, rfl, -⟩ := hsv'
   obtain ⟨Bc, bcc, rfl, -⟩ := hsc'
   obtain ⟨Br, bcr, rfl, -⟩ := hsr'
   have hpl : x.params.length ≤ 9223372036854775807 := by have := hp2.1; simp only [maxLen] at this; omega
   have hvl : x.vars.length ≤ 9223372036854775807 := by have := hv2.1; simp only [maxLen] at this; omega
   clear hrn hrn' hp1 hp2 hv1 hv2 HX
   have HX := Hi_ (Bel.rfl_ WB)
   rw [TF.same_head] at HD
   have HE : Hid (_ = x.head f y) := Hi_ (rfl : ((!f || decide (x.at_ = y.at_)) && (decide (x.name = y.name) && (decide (x.params.length = y.params.length) && (decide (x.vars.length = y.vars.length) && (sameCs f x.cmds y.cmds && x.result.same f y.result))))) = x.head f y)
   have HHL : Hid (x.head f y = true → x.params.length = y.params.length ∧ x.vars.length = y.vars.length) := Hi_ fun h => by
    unfold TF.head at h
    simp only [Bool.and_eq_true, decide_eq_true_eq] at h
    exact ⟨h.2.2.1, h.2.2.2.1⟩
   generalize x.head f y = SM at *
   generalize sameCs f x.cmds y.cmds = bC at *
   generalize x.result.same f y.result = bR at *
   generalize x.result.kind = xrk at *
   generalize x.result.at_ = xra at *
   generalize x.result.n = xrn at *
   generalize x.result.name = xrs at *
   generalize x.at_ = xa at *
   generalize x.name = xn at *
   generalize y.result.kind = yrk at *
   generalize y.result.at_ = yra at *
   generalize y.result.n = yrn at *
   generalize y.result.name = yrs at *
   generalize y.at_ = ya at *
   generalize y.name = yn at *
   go_upto_region 7 with fail
   go_cut [86] from 36 to 85 (fun s wx => s = .bool (!SM) ∧ Hid (Bel WB wx))
   case first =>
    clear HSP HSP' HSV HSV' HHL HD
    refine wl_region ?_
    try dsimp only [List.append]
    cases f with
    | false =>
     rw [show (!false || decide (xa = ya)) = true from rfl, Bool.true_and] at HE
     refine wl_c 10 36 [.bool false, .bool false, uD, uD, uD, uD, uD, .bool false, .bool false, .pointer (some ⟨G1, 1, none⟩)] ?_
     refine wl_e (some 46) (.string xn) (rl_str_ (HK1.out.cell (i := 1) (v := .string xn) rfl)) ?_
     refine wl_k (some 47) (.pointer (some ⟨G2, 1, none⟩)) ?_
     refine wl_e (some 48) (.string yn) (rl_str_ (HK2.out.cell (i := 1) (v := .string yn) rfl)) ?_
     by_cases h_n : xn = yn
     rotate_left
     ·have d_n : (xn.toList == yn.toList) = false := str_false h_n
      rw [decide_eq_false h_n, Bool.false_and] at HE
      refine wl_e (some 49) (.bool true) (rb_neqS rfl (by kernel_rfl) (by kernel_rfl) d_n) ?_
      refine wl_c 37 50 [.bool true, .bool true, uD, uD, uD, uD, uD, uD, uD, .bool true, .bool true, uD, uD, uD, uD, uD, uD, uD, .bool true, .bool true, uD, uD, uD, uD, uD, uD, uD, .bool true, .bool true, uD, uD, uD, uD, uD, uD, uD, .bool true] ?_
      refine wl_nil ?_
      try simp only [sP, Act.put, lA, lB, lC]
      try go_wp2
      go_meet
      exact ⟨by rw [← HE.out]; rfl, HX⟩
     have d_n : (xn.toList == yn.toList) = true := str_true h_n
     rw [decide_eq_true h_n, Bool.true_and] at HE
     refine wl_e (some 49) (.bool false) (rb_neqS rfl (by kernel_rfl) (by kernel_rfl) d_n) ?_
     refine wl_c 3 50 [.bool false, .bool false, .pointer (some ⟨G1, 2, none⟩)] ?_
     refine wl_e (some 53) (.slice Ap x.params.length acp) (rl_ss_ (HK1.out.cell (i := 2) (v := .slice Ap x.params.length acp) rfl)) ?_
     refine wl_c 2 54 [.int .i64 x.params.length, .pointer (some ⟨G2, 2, none⟩)] ?_
     refine wl_e (some 56) (.slice Bp y.params.length bcp) (rl_ss_ (HK2.out.cell (i := 2) (v := .slice Bp y.params.length bcp) rfl)) ?_
     refine wl_k (some 57) (.int .i64 y.params.length) ?_
     by_cases h_p : x.params.length = y.params.length
     rotate_left
     ·have d_p : ((x.params.length : Int) != y.params.length) = true := by simp; omega
      rw [decide_eq_false h_p, Bool.false_and] at HE
      refine wl_e (some 58) (.bool true) (rb_neqI rfl (by kernel_rfl) (by kernel_rfl) d_p) ?_
      refine wl_c 28 59 [.bool true, .bool true, uD, uD, uD, uD, uD, uD, uD, .bool true, .bool true, uD, uD, uD, uD, uD, uD, uD, .bool true, .bool true, uD, uD, uD, uD, uD, uD, uD, .bool true] ?_
      refine wl_nil ?_
      try simp only [sP, Act.put, lA, lB, lC]
      try go_wp2
      go_meet
      exact ⟨by rw [← HE.out]; rfl, HX⟩
     have d_p : ((x.params.length : Int) != y.params.length) = false := by simp; omega
     rw [decide_eq_true h_p, Bool.true_and] at HE
     refine wl_e (some 58) (.bool false) (rb_neqI rfl (by kernel_rfl) (by kernel_rfl) d_p) ?_
     refine wl_c 3 59 [.bool false, .bool false, .pointer (some ⟨G1, 3, none⟩)] ?_
     refine wl_e (some 62) (.slice Av x.vars.length acv) (rl_vs_ (HK1.out.cell (i := 3) (v := .slice Av x.vars.length acv) rfl)) ?_
     refine wl_c 2 63 [.int .i64 x.vars.length, .pointer (some ⟨G2, 3, none⟩)] ?_
     refine wl_e (some 65) (.slice Bv y.vars.length bcv) (rl_vs_ (HK2.out.cell (i := 3) (v := .slice Bv y.vars.length bcv) rfl)) ?_
     refine wl_k (some 66) (.int .i64 y.vars.length) ?_
     by_cases h_v : x.vars.length = y.vars.length
     rotate_left
     ·have d_v : ((x.vars.length : Int) != y.vars.length) = true := by simp; omega
      rw [decide_eq_false h_v, Bool.false_and] at HE
      refine wl_e (some 67) (.bool true) (rb_neqI rfl (by kernel_rfl) (by kernel_rfl) d_v) ?_
      refine wl_c 19 68 [.bool true, .bool true, uD, uD, uD, uD, uD, uD, uD, .bool true, .bool true, uD, uD, uD, uD, uD, uD, uD, .bool true] ?_
      refine wl_nil ?_
      try simp only [sP, Act.put, lA, lB, lC]
      try go_wp2
      go_meet
      exact ⟨by rw [← HE.out]; rfl, HX⟩
     have d_v : ((x.vars.length : Int) != y.vars.length) = false := by simp; omega
     rw [decide_eq_true h_v, Bool.true_and] at HE
     refine wl_e (some 67) (.bool false) (rb_neqI rfl (by kernel_rfl) (by kernel_rfl) d_v) ?_
     refine wl_c 3 68 [.bool false, .bool false, .pointer (some ⟨G1, 4, none⟩)] ?_
     refine wl_e (some 71) (.slice Ac x.cmds.length acc) (rl_cs_ (HK1.out.cell (i := 4) (v := .slice Ac x.cmds.length acc) rfl)) ?_
     refine wl_k (some 72) (.pointer (some ⟨G2, 4, none⟩)) ?_
     refine wl_e (some 73) (.slice Bc y.cmds.length bcc) (rl_cs_ (HK2.out.cell (i := 4) (v := .slice Bc y.cmds.length bcc) rfl)) ?_
     refine wl_k (some 74) (.bool false) ?_
     refine wl_cl (some 75) 48 #[.slice Ac x.cmds.length acc, .slice Bc y.cmds.length bcc, .bool false] (HFC.out _ HX.out) ?_
     rintro r W3 ⟨rfl, hb⟩
     replace HX := Hi_ (HX.out.tr hb)
     replace HK1 := Hi_ (HK1.out.keep hb)
     replace HK2 := Hi_ (HK2.out.keep hb)
     clear hb
     refine ⟨_, rfl, ?_⟩
     cases bC with
     | false =>
      rw [Bool.false_and] at HE
      refine wl_c 11 76 [.bool true, .bool true, .bool true, uD, uD, uD, uD, uD, uD, uD, .bool true] ?_
      refine wl_nil ?_
      try simp only [sP, Act.put, lA, lB, lC]
      try go_wp2
      go_meet
      exact ⟨by rw [← HE.out]; rfl, HX⟩
     | true =>
      rw [Bool.true_and] at HE
      refine wl_c 4 76 [.bool false, .bool false, .bool false, .pointer (some ⟨G1, 5, none⟩)] ?_
      refine wl_e (some 80) (.agg #[.int .i64 xrk, .int .i64 xra, .int .i64 xrn, .string xrs, .slice Ar x.result.args.length acr]) (run_loadRow 49 (.tmp 79) rfl elTE G1 5 (by kernel_rfl) [.int .i64 xrk, .int .i64 xra, .int .i64 xrn, .string xrs, .slice Ar x.result.args.length acr] (blkRange HK1.out 5 rfl) rfl (by kernel_rfl)) ?_
      refine wl_k (some 81) (.pointer (some ⟨G2, 5, none⟩)) ?_
      refine wl_e (some 82) (.agg #[.int .i64 yrk, .int .i64 yra, .int .i64 yrn, .string yrs, .slice Br y.result.args.length bcr]) (run_loadRow 49 (.tmp 81) rfl elTE G2 5 (by kernel_rfl) [.int .i64 yrk, .int .i64 yra, .int .i64 yrn, .string yrs, .slice Br y.result.args.length bcr] (blkRange HK2.out 5 rfl) rfl (by kernel_rfl)) ?_
      refine wl_k (some 83) (.bool false) ?_
      refine wl_cl (some 84) 49 #[.agg #[.int .i64 xrk, .int .i64 xra, .int .i64 xrn, .string xrs, .slice Ar x.result.args.length acr], .agg #[.int .i64 yrk, .int .i64 yra, .int .i64 yrn, .string yrs, .slice Br y.result.args.length bcr], .bool false] (HFR.out _ HX.out) ?_
      rintro r W3 ⟨rfl, hb⟩
      replace HX := Hi_ (HX.out.tr hb)
      replace HK1 := Hi_ (HK1.out.keep hb)
      replace HK2 := Hi_ (HK2.out.keep hb)
      clear hb
      refine ⟨_, rfl, ?_⟩
      cases bR with
      | false =>
       refine wl_c 2 85 [.bool true, .bool true] ?_
       refine wl_nil ?_
       try simp only [sP, Act.put, lA, lB, lC]
       try go_wp2
       go_meet
       exact ⟨by rw [← HE.out]; rfl, HX⟩
      | true =>
       refine wl_c 2 85 [.bool false, .bool false] ?_
       refine wl_nil ?_
       try simp only [sP, Act.put, lA, lB, lC]
       try go_wp2
       go_meet
       exact ⟨by rw [← HE.out]; rfl, HX⟩
    | true =>
     refine wl_c 3 36 [.bool true, .bool true, .pointer (some ⟨G1, 0, none⟩)] ?_
     refine wl_e (some 39) (.int .i64 xa) (rl_int_ (HK1.out.cell (i := 0) (v := .int .i64 xa) rfl)) ?_
     refine wl_k (some 40) (.pointer (some ⟨G2, 0, none⟩)) ?_
     refine wl_e (some 41) (.int .i64 ya) (rl_int_ (HK2.out.cell (i := 0) (v := .int .i64 ya) rfl)) ?_
     by_cases h_a : xa = ya
     rotate_left
     ·have d_a : (xa != ya) = true := by simpa using h_a
      rw [show (!true || decide (xa = ya)) = decide (xa = ya) from rfl, decide_eq_false h_a, Bool.false_and] at HE
      refine wl_e (some 42) (.bool true) (rb_neqI rfl (by kernel_rfl) (by kernel_rfl) d_a) ?_
      refine wl_c 44 43 [.bool true, .bool true, uD, uD, uD, uD, uD, .bool true, .bool true, uD, uD, uD, uD, uD, uD, uD, .bool true, .bool true, uD, uD, uD, uD, uD, uD, uD, .bool true, .bool true, uD, uD, uD, uD, uD, uD, uD, .bool true, .bool true, uD, uD, uD, uD, uD, uD, uD, .bool true] ?_
      refine wl_nil ?_
      try simp only [sP, Act.put, lA, lB, lC]
      try go_wp2
      go_meet
      exact ⟨by rw [← HE.out]; rfl, HX⟩
     have d_a : (xa != ya) = false := by simpa using h_a
     rw [show (!true || decide (xa = ya)) = decide (xa = ya) from rfl, decide_eq_true h_a, Bool.true_and] at HE
     refine wl_e (some 42) (.bool false) (rb_neqI rfl (by kernel_rfl) (by kernel_rfl) d_a) ?_
     refine wl_c 3 43 [.bool false, .bool false, .pointer (some ⟨G1, 1, none⟩)] ?_
     refine wl_e (some 46) (.string xn) (rl_str_ (HK1.out.cell (i := 1) (v := .string xn) rfl)) ?_
     refine wl_k (some 47) (.pointer (some ⟨G2, 1, none⟩)) ?_
     refine wl_e (some 48) (.string yn) (rl_str_ (HK2.out.cell (i := 1) (v := .string yn) rfl)) ?_
     by_cases h_n : xn = yn
     rotate_left
     ·have d_n : (xn.toList == yn.toList) = false := str_false h_n
      rw [decide_eq_false h_n, Bool.false_and] at HE
      refine wl_e (some 49) (.bool true) (rb_neqS rfl (by kernel_rfl) (by kernel_rfl) d_n) ?_
      refine wl_c 37 50 [.bool true, .bool true, uD, uD, uD, uD, uD, uD, uD, .bool true, .bool true, uD, uD, uD, uD, uD, uD, uD, .bool true, .bool true, uD, uD, uD, uD, uD, uD, uD, .bool true, .bool true, uD, uD, uD, uD, uD, uD, uD, .bool true] ?_
      refine wl_nil ?_
      try simp only [sP, Act.put, lA, lB, lC]
      try go_wp2
      go_meet
      exact ⟨by rw [← HE.out]; rfl, HX⟩
     have d_n : (xn.toList == yn.toList) = true := str_true h_n
     rw [decide_eq_true h_n, Bool.true_and] at HE
     refine wl_e (some 49) (.bool false) (rb_neqS rfl (by kernel_rfl) (by kernel_rfl) d_n) ?_
     refine wl_c 3 50 [.bool false, .bool false, .pointer (some ⟨G1, 2, none⟩)] ?_
     refine wl_e (some 53) (.slice Ap x.params.length acp) (rl_ss_ (HK1.out.cell (i := 2) (v := .slice Ap x.params.length acp) rfl)) ?_
     refine wl_c 2 54 [.int .i64 x.params.length, .pointer (some ⟨G2, 2, none⟩)] ?_
     refine wl_e (some 56) (.slice Bp y.params.length bcp) (rl_ss_ (HK2.out.cell (i := 2) (v := .slice Bp y.params.length bcp) rfl)) ?_
     refine wl_k (some 57) (.int .i64 y.params.length) ?_
     by_cases h_p : x.params.length = y.params.length
     rotate_left
     ·have d_p : ((x.params.length : Int) != y.params.length) = true := by simp; omega
      rw [decide_eq_false h_p, Bool.false_and] at HE
      refine wl_e (some 58) (.bool true) (rb_neqI rfl (by kernel_rfl) (by kernel_rfl) d_p) ?_
      refine wl_c 28 59 [.bool true, .bool true, uD, uD, uD, uD, uD, uD, uD, .bool true, .bool true, uD, uD, uD, uD, uD, uD, uD, .bool true, .bool true, uD, uD, uD, uD, uD, uD, uD, .bool true] ?_
      refine wl_nil ?_
      try simp only [sP, Act.put, lA, lB, lC]
      try go_wp2
      go_meet
      exact ⟨by rw [← HE.out]; rfl, HX⟩
     have d_p : ((x.params.length : Int) != y.params.length) = false := by simp; omega
     rw [decide_eq_true h_p, Bool.true_and] at HE
     refine wl_e (some 58) (.bool false) (rb_neqI rfl (by kernel_rfl) (by kernel_rfl) d_p) ?_
     refine wl_c 3 59 [.bool false, .bool false, .pointer (some ⟨G1, 3, none⟩)] ?_
     refine wl_e (some 62) (.slice Av x.vars.length acv) (rl_vs_ (HK1.out.cell (i := 3) (v := .slice Av x.vars.length acv) rfl)) ?_
     refine wl_c 2 63 [.int .i64 x.vars.length, .pointer (some ⟨G2, 3, none⟩)] ?_
     refine wl_e (some 65) (.slice Bv y.vars.length bcv) (rl_vs_ (HK2.out.cell (i := 3) (v := .slice Bv y.vars.length bcv) rfl)) ?_
     refine wl_k (some 66) (.int .i64 y.vars.length) ?_
     by_cases h_v : x.vars.length = y.vars.length
     rotate_left
     ·have d_v : ((x.vars.length : Int) != y.vars.length) = true := by simp; omega
      rw [decide_eq_false h_v, Bool.false_and] at HE
      refine wl_e (some 67) (.bool true) (rb_neqI rfl (by kernel_rfl) (by kernel_rfl) d_v) ?_
      refine wl_c 19 68 [.bool true, .bool true, uD, uD, uD, uD, uD, uD, uD, .bool true, .bool true, uD, uD, uD, uD, uD, uD, uD, .bool true] ?_
      refine wl_nil ?_
      try simp only [sP, Act.put, lA, lB, lC]
      try go_wp2
      go_meet
      exact ⟨by rw [← HE.out]; rfl, HX⟩
     have d_v : ((x.vars.length : Int) != y.vars.length) = false := by simp; omega
     rw [decide_eq_true h_v, Bool.true_and] at HE
     refine wl_e (some 67) (.bool false) (rb_neqI rfl (by kernel_rfl) (by kernel_rfl) d_v) ?_
     refine wl_c 3 68 [.bool false, .bool false, .pointer (some ⟨G1, 4, none⟩)] ?_
     refine wl_e (some 71) (.slice Ac x.cmds.length acc) (rl_cs_ (HK1.out.cell (i := 4) (v := .slice Ac x.cmds.length acc) rfl)) ?_
     refine wl_k (some 72) (.pointer (some ⟨G2, 4, none⟩)) ?_
     refine wl_e (some 73) (.slice Bc y.cmds.length bcc) (rl_cs_ (HK2.out.cell (i := 4) (v := .slice Bc y.cmds.length bcc) rfl)) ?_
     refine wl_k (some 74) (.bool true) ?_
     refine wl_cl (some 75) 48 #[.slice Ac x.cmds.length acc, .slice Bc y.cmds.length bcc, .bool true] (HFC.out _ HX.out) ?_
     rintro r W3 ⟨rfl, hb⟩
     replace HX := Hi_ (HX.out.tr hb)
     replace HK1 := Hi_ (HK1.out.keep hb)
     replace HK2 := Hi_ (HK2.out.keep hb)
     clear hb
     refine ⟨_, rfl, ?_⟩
     cases bC with
     | false =>
      rw [Bool.false_and] at HE
      refine wl_c 11 76 [.bool true, .bool true, .bool true, uD, uD, uD, uD, uD, uD, uD, .bool true] ?_
      refine wl_nil ?_
      try simp only [sP, Act.put, lA, lB, lC]
      try go_wp2
      go_meet
      exact ⟨by rw [← HE.out]; rfl, HX⟩
     | true =>
      rw [Bool.true_and] at HE
      refine wl_c 4 76 [.bool false, .bool false, .bool false, .pointer (some ⟨G1, 5, none⟩)] ?_
      refine wl_e (some 80) (.agg #[.int .i64 xrk, .int .i64 xra, .int .i64 xrn, .string xrs, .slice Ar x.result.args.length acr]) (run_loadRow 49 (.tmp 79) rfl elTE G1 5 (by kernel_rfl) [.int .i64 xrk, .int .i64 xra, .int .i64 xrn, .string xrs, .slice Ar x.result.args.length acr] (blkRange HK1.out 5 rfl) rfl (by kernel_rfl)) ?_
      refine wl_k (some 81) (.pointer (some ⟨G2, 5, none⟩)) ?_
      refine wl_e (some 82) (.agg #[.int .i64 yrk, .int .i64 yra, .int .i64 yrn, .string yrs, .slice Br y.result.args.length bcr]) (run_loadRow 49 (.tmp 81) rfl elTE G2 5 (by kernel_rfl) [.int .i64 yrk, .int .i64 yra, .int .i64 yrn, .string yrs, .slice Br y.result.args.length bcr] (blkRange HK2.out 5 rfl) rfl (by kernel_rfl)) ?_
      refine wl_k (some 83) (.bool true) ?_
      refine wl_cl (some 84) 49 #[.agg #[.int .i64 xrk, .int .i64 xra, .int .i64 xrn, .string xrs, .slice Ar x.result.args.length acr], .agg #[.int .i64 yrk, .int .i64 yra, .int .i64 yrn, .string yrs, .slice Br y.result.args.length bcr], .bool true] (HFR.out _ HX.out) ?_
      rintro r W3 ⟨rfl, hb⟩
      replace HX := Hi_ (HX.out.tr hb)
      replace HK1 := Hi_ (HK1.out.keep hb)
      replace HK2 := Hi_ (HK2.out.keep hb)
      clear hb
      refine ⟨_, rfl, ?_⟩
      cases bR with
      | false =>
       refine wl_c 2 85 [.bool true, .bool true] ?_
       refine wl_nil ?_
       try simp only [sP, Act.put, lA, lB, lC]
       try go_wp2
       go_meet
       exact ⟨by rw [← HE.out]; rfl, HX⟩
      | true =>
       refine wl_c 2 85 [.bool false, .bool false] ?_
       refine wl_nil ?_
       try simp only [sP, Act.put, lA, lB, lC]
       try go_wp2
       go_meet
       exact ⟨by rw [← HE.out]; rfl, HX⟩
   case rest =>
    clear HX HE HFC HFR
    obtain ⟨rfl, HX⟩ := hcut
    cases SM with
    | false =>
     have HR : Hid (false = T) := Hi_ (by rw [← HD.out]; simp)
     go_wp2
     go_ret
     exact ⟨by rw [← HR.out]; rfl, HB.out.tr (HXO.out.tr HX.out)⟩
    | true =>
    obtain ⟨hlp, hlv⟩ := HHL.out rfl
    have HLP := Hi_ hlp
    have HLV := Hi_ hlv
    rw [Bool.true_and] at HD
    clear HHL hlp hlv
    go_wp2
    go_loopw [10] (fun i wx => ∃ m : Nat, i = .int .i64 m ∧ m ≤ x.params.length ∧ Hid (x.params.take m = y.params.take m) ∧ Hid (Bel WB wx)) (fun i _ => x.params.length - (intOf i).toNat)
    case atStart => exact ⟨0, rfl, Nat.zero_le _, Hi_ (by simp), HX⟩
    case round =>
     clear HX
     obtain ⟨m, rfl, hm, HTK, HX⟩ := hrel
     have k2 := (HK1.out.keep HX.out).cell (i := 2) (v := .slice Ap x.params.length acp) rfl
     by_cases hml : m < x.params.length
     ·have hmd : decide ((m : Int) < x.params.length) = true := decide_eq_true (by omega)
      have hml2 : m < y.params.length := by have := HLP.out; omega
      obtain ⟨ep, hep⟩ : ∃ e, x.params[m]? = some e := ⟨_, List.getElem?_eq_getElem hml⟩
      obtain ⟨eq_, heq⟩ : ∃ e, y.params[m]? = some e := ⟨_, List.getElem?_eq_getElem hml2⟩
      obtain ⟨pb, po, rfl, hA⟩ := Sl.lies (r := nmR) HSP.out (by omega)
      obtain ⟨qb, qo, rfl, hA'⟩ := Sl.lies (r := nmR) HSP'.out (by omega)
      obtain ⟨y0, -⟩ := nmR.cell hA hep
      obtain ⟨z0, -⟩ := nmR.cell hA' heq
      have j0 : (0 : Int) ≤ m := by omega
      have j1 : (m : Int) < x.params.length := by omega
      have j2 : (m : Int) < y.params.length := by omega
      obtain ⟨CE, ce⟩ : ∃ c, (ep.toList == eq_.toList) = c := ⟨_, rfl⟩
      have HNX : Hid (CE = true → x.params.take (m + 1) = y.params.take (m + 1)) := Hi_ fun h => by
       have he : ep = eq_ := by
        by_cases hh : ep = eq_
        ·exact hh
        ·rw [str_false hh] at ce
         rw [← ce] at h
         cases h
       rw [List.take_add_one, List.take_add_one, HTK.out, hep, heq, he]
      have HNE : Hid (CE = false → decide (x.params = y.params) = false) := Hi_ fun h => decide_eq_false fun hh => by
       rw [hh, heq] at hep
       injection hep with hep
       rw [str_true hep.symm] at ce
       rw [← ce] at h
       cases h
      clear hA hA' hep heq
      go_upto_region 12 with fail
      clear k2
      refine wp_region_held_drew (S := fun W => Bel WB W) (by kernel_rfl) (HX.out.dr) (fun hS => ?_)
      refine rt_t (i := 0) (some 94) (.pointer (some ⟨G1, 2, none⟩)) rfl hS (fun W _ => by kernel_rfl) ?_
      refine rt_t (i := 1) (some 95) (.slice (some ⟨pb, po, none⟩) x.params.length acp) rfl hS (fun W hb => rl_ss_ ((HK1.out.keep hb).cell (i := 2) rfl)) ?_
      refine rt_t (i := 2) (some 96) (.int .i64 m) rfl hS (fun W _ => by kernel_rfl) ?_
      refine rt_t (i := 3) (some 97) (.pointer (some ⟨pb, po + m, none⟩)) rfl hS (fun W _ => by go_simp) ?_
      refine rt_t (i := 4) (some 98) (.string ep) rfl hS (fun W hb => rl_str_ (hb.cell y0)) ?_
      refine rt_t (i := 5) (some 99) (.pointer (some ⟨G2, 2, none⟩)) rfl hS (fun W _ => by kernel_rfl) ?_
      refine rt_t (i := 6) (some 100) (.slice (some ⟨qb, qo, none⟩) y.params.length bcp) rfl hS (fun W hb => rl_ss_ ((HK2.out.keep hb).cell (i := 2) rfl)) ?_
      refine rt_t (i := 7) (some 101) (.int .i64 m) rfl hS (fun W _ => by kernel_rfl) ?_
      refine rt_t (i := 8) (some 102) (.pointer (some ⟨qb, qo + m, none⟩)) rfl hS (fun W _ => by go_simp) ?_
      refine rt_t (i := 9) (some 103) (.string eq_) rfl hS (fun W hb => rl_str_ (hb.cell z0)) ?_
      refine rt_t (i := 10) (some 104) (.bool (!CE)) rfl hS (fun W _ => rb_neqS (c := CE) rfl (by kernel_rfl) (by kernel_rfl) ce) ?_
      refine wpAnyH_done (by kernel_rfl) ?_ _
      try simp only [Act.put, lA, lB, lC]
      have HX := Hi_ hS
      cases CE with
      | false =>
       have HR : Hid (false = T) := Hi_ (by rw [← HD.out, HNE.out rfl]; simp)
       go_wp2
       go_ret
       exact ⟨by rw [← HR.out]; rfl, HB.out.tr (HXO.out.tr HX.out)⟩
      | true =>
       go_wp2
       go_roundw
       case rel => exact ⟨m + 1, by go_num, by omega, Hi_ (HNX.out rfl), HX⟩
       case measure => simp [intOf]; omega
     ·have hmd : decide ((m : Int) < x.params.length) = false := decide_eq_false (by omega)
      have HPE : Hid (x.params = y.params) := Hi_ (by
       have h := HTK.out
       rw [List.take_of_length_le (by omega), List.take_of_length_le (by have := HLP.out; omega)] at h
       exact h)
      rw [decide_eq_true HPE.out, Bool.true_and] at HD
      go_wp2
      go_loopw [11] (fun i wx => ∃ n : Nat, i = .int .i64 n ∧ n ≤ x.vars.length ∧ Hid (x.vars.take n = y.vars.take n) ∧ Hid (Bel WB wx)) (fun i _ => x.vars.length - (intOf i).toNat)
      case atStart => exact ⟨0, rfl, Nat.zero_le _, Hi_ (by simp), HX⟩
      case round =>
       clear HX k2
       obtain ⟨n, rfl, hn, HTV, HX⟩ := hrel
       have k3 := (HK1.out.keep HX.out).cell (i := 3) (v := .slice Av x.vars.length acv) rfl
       by_cases hnl : n < x.vars.length
       ·have hnd : decide ((n : Int) < x.vars.length) = true := decide_eq_true (by omega)
        have hnl2 : n < y.vars.length := by have := HLV.out; omega
        obtain ⟨ev, hev⟩ : ∃ e, x.vars[n]? = some e := ⟨_, List.getElem?_eq_getElem hnl⟩
        obtain ⟨ew, hew⟩ : ∃ e, y.vars[n]? = some e := ⟨_, List.getElem?_eq_getElem hnl2⟩
        obtain ⟨pb, po, rfl, hA⟩ := Sl.lies (r := tvR) HSV.out (by omega)
        obtain ⟨qb, qo, rfl, hA'⟩ := Sl.lies (r := tvR) HSV'.out (by omega)
        obtain ⟨_, ⟨rfl, -⟩, hc1⟩ := hA n ev hev
        obtain ⟨_, ⟨rfl, -⟩, hc2⟩ := hA' n ew hew
        have HEV : Hid (CellsAt WB pb (po + n * 2) [.string ev.name, .int .i64 ev.size]) := Hi_ hc1
        have HEW : Hid (CellsAt WB qb (qo + n * 2) [.string ew.name, .int .i64 ew.size]) := Hi_ hc2
        have j0 : (0 : Int) ≤ n := by omega
        have j1 : (n : Int) < x.vars.length := by omega
        have j2 : (n : Int) < y.vars.length := by omega
        obtain ⟨C1, c1⟩ : ∃ c, (ev.name.toList == ew.name.toList) = c := ⟨_, rfl⟩
        obtain ⟨C2, c2⟩ : ∃ c, (ev.size == ew.size) = c := ⟨_, rfl⟩
        have hvw : ev = ew ↔ (C1 && C2) = true := by
         obtain ⟨a1, a2⟩ := ev
         obtain ⟨b1, b2⟩ := ew
         by_cases h1 : a1 = b1
         ·have e1 := str_true h1
          simp only [] at c1 c2
          rw [e1] at c1
          subst c1 h1
          by_cases h2 : a2 = b2
          ·subst h2
           simp only [beq_self_eq_true] at c2
           subst c2
           simp
          ·rw [beq_eq_false_iff_ne.2 h2] at c2
           subst c2
           simp [h2]
         ·have e1 := str_false h1
          simp only [] at c1 c2
          rw [e1] at c1
          subst c1
          simp [h1]
        have HNX : Hid ((C1 && C2) = true → x.vars.take (n + 1) = y.vars.take (n + 1)) := Hi_ fun h => by
         rw [List.take_add_one, List.take_add_one, HTV.out, hev, hew, hvw.2 h]
        have HNE : Hid ((C1 && C2) = false → decide (x.vars = y.vars) = false) := Hi_ fun h => decide_eq_false fun hh => by
         rw [hh, hew] at hev
         injection hev with hev
         rw [hvw.1 hev.symm] at h
         cases h
        clear hA hA' hev hew hc1 hc2 hvw
        go_upto_region 17 with fail
        clear k3
        refine wp_region_held_drew (S := fun W => Bel WB W) (by kernel_rfl) (HX.out.dr) (fun hS => ?_)
        refine rt_t (i := 0) (some 112) (.pointer (some ⟨G1, 3, none⟩)) rfl hS (fun W _ => by kernel_rfl) ?_
        refine rt_t (i := 1) (some 113) (.slice (some ⟨pb, po, none⟩) x.vars.length acv) rfl hS (fun W hb => rl_vs_ ((HK1.out.keep hb).cell (i := 3) rfl)) ?_
        refine rt_t (i := 2) (some 114) (.int .i64 n) rfl hS (fun W _ => by kernel_rfl) ?_
        refine rt_t (i := 3) (some 115) (.pointer (some ⟨pb, po + n * 2, none⟩)) rfl hS (fun W _ => by go_simp) ?_
        refine rt_t (i := 4) (some 116) (.agg #[.string ev.name, .int .i64 ev.size]) rfl hS (fun W hb => run_loadRow 55 (.tmp 115) rfl elTV pb (po + n * 2) (by kernel_rfl) [.string ev.name, .int .i64 ev.size] (HEV.out.keep hb) rfl (by kernel_rfl)) ?_
        refine rt_t (i := 5) (some 117) (.pointer (some ⟨G2, 3, none⟩)) rfl hS (fun W _ => by kernel_rfl) ?_
        refine rt_t (i := 6) (some 118) (.slice (some ⟨qb, qo, none⟩) y.vars.length bcv) rfl hS (fun W hb => rl_vs_ ((HK2.out.keep hb).cell (i := 3) rfl)) ?_
        refine rt_t (i := 7) (some 119) (.int .i64 n) rfl hS (fun W _ => by kernel_rfl) ?_
        refine rt_t (i := 8) (some 120) (.pointer (some ⟨qb, qo + n * 2, none⟩)) rfl hS (fun W _ => by go_simp) ?_
        refine rt_t (i := 9) (some 121) (.agg #[.string ew.name, .int .i64 ew.size]) rfl hS (fun W hb => run_loadRow 55 (.tmp 120) rfl elTV qb (qo + n * 2) (by kernel_rfl) [.string ew.name, .int .i64 ew.size] (HEW.out.keep hb) rfl (by kernel_rfl)) ?_
        refine rt_t (i := 10) (some 122) (.bool (!(C1 && C2))) rfl hS (fun W _ => rb_neqV (c := C1) (d := C2) rfl (by kernel_rfl) (by kernel_rfl) c1 c2) ?_
        refine wpAnyH_done (by kernel_rfl) ?_ _
        try simp only [Act.put, lA, lB, lC]
        have HX := Hi_ hS
        clear c1 c2
        generalize (C1 && C2) = CE at *
        cases CE with
        | false =>
         have HR : Hid (false = T) := Hi_ (by rw [← HD.out, HNE.out rfl]; simp)
         go_wp2
         go_ret
         exact ⟨by rw [← HR.out]; rfl, HB.out.tr (HXO.out.tr HX.out)⟩
        | true =>
         go_wp2
         go_roundw
         case rel => exact ⟨n + 1, by go_num, by omega, Hi_ (HNX.out rfl), HX⟩
         case measure => simp [intOf]; omega
       ·have hnd : decide ((n : Int) < x.vars.length) = false := decide_eq_false (by omega)
        have HVE : Hid (x.vars = y.vars) := Hi_ (by
         have h := HTV.out
         rw [List.take_of_length_le (by omega), List.take_of_length_le (by have := HLV.out; omega)] at h
         exact h)
        rw [decide_eq_true HVE.out, Bool.true_and] at HD
        have HP1' := Hi_ (HP1.out.keep (HXO.out.tr HX.out))
        have HP2' := Hi_ (HP2.out.keep (HXO.out.tr HX.out))
        go_wp2
        go_roundw
        case rel => exact ⟨j + 1, by omega, by go_num, HD, Hi_ (HB.out.tr (HXO.out.tr HX.out)), HP1', HP2'⟩
        case measure => simp [intOf]; omega
end Go.Proofs.YtmfjlcpjemccmaaGreatDoor
