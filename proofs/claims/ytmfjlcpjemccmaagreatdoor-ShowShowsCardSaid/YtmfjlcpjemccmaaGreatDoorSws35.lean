/- The document's text of a tree: walked. Each lemma states its own conditions. -/
import Derived.Test.YtmfjlcpjemccmaaGreatDoorSws28
import Derived.Test.YtmfjlcpjemccmaaGreatDoorSws34
import Derived.Test.YtmfjlcpjemccmaaGreatDoorSws25
namespace Go.Proofs.YtmfjlcpjemccmaaGreatDoor
open Go.RowKit
theorem textFs_drop {l : List TF} {k : Nat} {x : TF} (hx : l[k]? = some x) : textFs (l.drop k) = x.text (decide (k + 1 = l.length)) ++ textFs (l.drop (k + 1)) := by
 obtain ⟨hl, rfl⟩ := List.getElem?_eq_some_iff.1 hx
 rw [List.drop_eq_getElem_cons hl, textFs, List.length_drop]
 congr 2
 exact decide_eq_decide.2 (by omega)
theorem textFs_end {l : List TF} {k : Nat} (h : l.length ≤ k) : textFs (l.drop k) = emp := by rw [List.drop_eq_nil_of_le h, textFs]
theorem okFs_at : ∀ {l : List TF} (_ : okFs l = true) {k : Nat} {x : TF} (_ : l[k]? = some x), x.ok (decide (k + 1 = l.length)) = true
 | [], _, k, x, hx => by simp at hx
 | [f], h, k, x, hx => by
  match k with
  | 0 =>
   obtain rfl : f = x := by simpa using hx
   exact h
  | k + 1 => simp at hx
 | f :: g :: l, h, k, x, hx => by
  rw [okFs, Bool.and_eq_true] at h
  match k with
  | 0 =>
   obtain rfl : f = x := by simpa using hx
   have : decide (0 + 1 = (f :: g :: l).length) = false := by simp
   rw [this]
   exact h.1
  | k + 1 =>
   have h2 := okFs_at h.2 (k := k) (x := x) (by simpa using hx)
   rw [List.length_cons]
   have : decide (k + 1 + 1 = (g :: l).length + 1) = decide (k + 1 = (g :: l).length) := decide_eq_decide.2 (by omega)
   rw [this]
   exact h2
theorem textVs_drop {l : List TV} {k : Nat} {x : TV} (hx : l[k]? = some x) : textVs (l.drop k) = x.text ++ textVs (l.drop (k + 1)) := by
 obtain ⟨hl, rfl⟩ := List.getElem?_eq_some_iff.1 hx
 rw [List.drop_eq_getElem_cons hl, textVs]
theorem textVs_end {l : List TV} {k : Nat} (h : l.length ≤ k) : textVs (l.drop k) = emp := by rw [List.drop_eq_nil_of_le h, textVs]
theorem TF.parts {x : TF} {m : Bool} (h : x.ok m = true) : (m = false → x.result.ok = true) ∧ (∀ v ∈ x.vars, v.ok = true) ∧ okCs x.cmds = true := by
 unfold TF.ok at h
 simp only [Bool.and_eq_true] at h
 refine ⟨fun hm => ?_, List.all_eq_true.1 h.1.2, by rw [okCs_all]; exact h.2⟩
 subst hm
 have := h.1.1.1
 rw [if_neg (by decide), Bool.and_eq_true] at this
 exact this.2
theorem TV.range {v : TV} (h : v.ok = true) : -9999999 ≤ v.size ∧ v.size ≤ 9999999 := by
 unfold TV.ok at h
 rw [Bool.and_eq_true] at h
 have := of_decide_eq_true h.2
 omega
set_option maxRecDepth 20000 in
set_option maxHeartbeats 20000000 in
theorem treeText_any (l : List TF) (v : Value) (w : World) (h : Sl tfR w v l) (hok : okFs l = true) (hsz : (textFs l).size ≤ 100000) :
  Calls Tryz.prog 15 #[.agg #[v]] w fun r w' => r = .returned (.string (textFs l)) ∧ Bel w w' := by
 have HSL := Lib.hid h
 have HOK := Lib.hid (fun (k : Nat) (x : TF) (hx : l[k]? = some x) => okFs_at hok hx)
 have HT : Hid ((⟨#[]⟩ : ByteArray) ++ textFs (l.drop 0) = textFs l) := Lib.hid ByteArray.empty_append
 generalize hTT : textFs l = T at *
 clear hTT hok
 obtain ⟨A, c, rfl, hc, hm, -⟩ := h
 have hll : l.length ≤ 9223372036854775807 := by have := hm.1; simp only [maxLen] at this; omega
 have HSZ := Lib.hid hsz
 have HQ := Lib.hid (Blk.new w 24 #[.slice A l.length c])
 have HB0 := Lib.hid ((Bel.rfl_ w).al (.cells #[.slice A l.length c] 24))
 clear hc hm hsz
 go_enter Tryz.func15, Tryz.ntmps15
 go_upto_region 1 with fail
 generalize w.alloc (.cells #[.slice A l.length c] 24) = W0 at *
 generalize w.heap.size = P at *
 go_wp2
 go_loopw [3, 4] (fun a i wr => ∃ (j : Nat) (t : ByteArray), a = .string t ∧ i = .int .i64 j ∧ j ≤ l.length ∧ Hid (t ++ textFs (l.drop j) = T) ∧ Hid (Bel w wr) ∧ Hid (Blk wr P 24 #[.slice A l.length c])) (fun _ i _ => l.length - (intOf i).toNat)
 case atStart => exact ⟨0, ⟨#[]⟩, rfl, rfl, Nat.zero_le _, HT, HB0, HQ⟩
 case round =>
  obtain ⟨j, t, rfl, rfl, hj, HS, HB, HQ⟩ := hrel
  obtain ⟨WO, hWO⟩ : ∃ W, W = wr := ⟨_, rfl⟩
  subst hWO
  clear HT HB0
  have c0 := HQ.out.cell (i := 0) (v := .slice A l.length c) rfl
  by_cases hlt : j < l.length
  rotate_left
  ·have hdd : decide ((j : Int) < l.length) = false := decide_eq_false (by omega)
   have HR : Hid (t = T) := Lib.hid (by rw [← HS.out, textFs_end (by omega)]; exact ByteArray.append_empty.symm)
   go_wp2
   go_ret
   exact ⟨by rw [← HR.out]; rfl, HB.out⟩
  have hdd : decide ((j : Int) < l.length) = true := decide_eq_true (by omega)
  obtain ⟨x, hx⟩ : ∃ x, l[j]? = some x := ⟨_, List.getElem?_eq_getElem hlt⟩
  obtain ⟨b, o, cs, rfl, hcs, hca⟩ := tfAt (HSL.out.keep HB.out) hx
  have HS2 : Hid ((t ++ x.text (decide (j + 1 = l.length))) ++ textFs (l.drop (j + 1)) = T) := Lib.hid (by rw [ByteArray.append_assoc, ← textFs_drop hx]; exact HS.out)
  obtain ⟨m, hm⟩ : ∃ m, decide (j + 1 = l.length) = m := ⟨_, rfl⟩
  obtain ⟨q1, q2, q3⟩ := TF.parts (HOK.out j x hx)
  rw [hm] at HS2 q1
  have hmd : ((j : Int) == l.length - 1) = m := by
   rw [← hm, Bool.eq_iff_iff]
   simp
   omega
  have hz : (t ++ x.text m).size ≤ 100000 := by
   have h1 := HSZ.out
   rw [← HS2.out, ByteArray.size_append] at h1
   omega
  have i0 : (0 : Int) ≤ j := by omega
  have i1 : (j : Int) < l.length := by omega
  have HCS := Lib.hid hcs
  have HCA := Lib.hid hca
  clear hcs hca hx HS hm
  go_upto_region 6 with (refine copyTF (.tmp 18) (.tmp 5) (.tmp 19) rfl rfl rfl rfl rfl rfl b (o + j * 10) (by exact rfl) cs HCA.out HCS.out (by exact rfl) (by exact rfl) ?_)
  clear c0
  have HBW := Lib.hid ((Bel.rfl_ WO).al (.cells cs.toArray 51))
  have HK := Lib.hid (Blk.new WO 51 cs.toArray)
  obtain ⟨vp, vv, vc, vr, rfl, -, hrn, hsp, hsv, hsc, hsr⟩ := HCS.out
  clear HCS HCA
  generalize hW1 : WO.alloc _ = W1 at *
  clear hW1
  generalize WO.heap.size = G at *
  have HCO : Hid ((comsB x.params).size ≤ 1000000 → ∀ W, Bel WO W → Calls Tryz.prog 42 #[vp] W fun r w' => r = .returned (.string (comsB x.params)) ∧ Bel W w') := Lib.hid fun h1 W hb => commas_any x.params vp W (hsp.keep hb) h1
  have HCT : Hid ((textCs x.cmds twoB).size ≤ 100000 → ∀ W, Bel WO W → Calls Tryz.prog 44 #[vc, .string twoB] W fun r w' => r = .returned (.string (textCs x.cmds twoB)) ∧ Bel W w') := Lib.hid fun h1 W hb => cmdsText_any x.cmds twoB vc W (hsc.keep hb) q3 h1
  have HRX : Hid (m = false → x.result.text.size ≤ 100000 → ∀ W, Bel WO W → Calls Tryz.prog 45 #[.agg #[.int .i64 x.result.kind, .int .i64 x.result.at_, .int .i64 x.result.n, .string x.result.name, vr]] W fun r w' => r = .returned (.string x.result.text) ∧ Bel W w') := Lib.hid fun h1 h2 W hb => exprText_any x.result _ W ⟨_, rfl, hrn, hsr.keep hb⟩ (q1 h1) h2
  have HSV := Lib.hid hsv
  have HVK := Lib.hid q2
  obtain ⟨Ap, cp, rfl, -⟩ := hsp
  obtain ⟨Av, cv, rfl, hcv1, hcv2, -⟩ := hsv
  obtain ⟨Ac, cc, rfl, -⟩ := hsc
  obtain ⟨Ar, cr, rfl, -⟩ := hsr
  have hvl : x.vars.length ≤ 9223372036854775807 := by have := hcv2.1; simp only [maxLen] at this; omega
  clear hrn q1 q2 q3 hcv1 hcv2
  have HTM : Hid (x.text m = (if m then maiB else funB ++ (x.name ++ (lparB ++ (comsB x.params ++ hedB)))) ++ (textVs x.vars ++ (textCs x.cmds twoB ++ ((if m then emp else retB ++ (x.result.text ++ endB)) ++ cloB)))) := Lib.hid rfl
  generalize x.text m = X at *
  generalize x.result.text = RT at *
  generalize textCs x.cmds twoB = CT at *
  generalize comsB x.params = CM at *
  generalize x.result.kind = rk at *
  generalize x.result.at_ = ra at *
  generalize x.result.n = rn at *
  generalize x.result.name = rs at *
  generalize x.at_ = xa at *
  generalize x.name = xn at *
  rw [HTM.out] at HS2 hz
  clear HTM
  have c0 := (HQ.out.keep HBW.out).cell (i := 0) (v := .slice (some ⟨b, o, none⟩) l.length c) rfl
  cases m with
  | true =>
   rw [if_pos rfl, if_pos rfl] at HS2 hz
   simp only [ByteArray.size_append] at hz
   clear HRX HCO
   go_upto_region 8 with fail
   clear c0
   refine wl_region ?_
   try dsimp only [List.append]
   refine wl_do (some 27) (.string t) rfl (by kernel_rfl) (by kernel_rfl) ?_
   refine wl_do (some 28) (.string (t ++ (⟨#[109, 97, 105, 110, 32, 123, 10]⟩ : ByteArray))) rfl (by kernel_rfl) (rb_addS rfl (by kernel_rfl) (by kernel_rfl) (by have e0 : (⟨#[109, 97, 105, 110, 32, 123, 10]⟩ : ByteArray).size = 7 := rfl; (try simp only [ByteArray.size_append]); omega)) ?_
   refine wl_do (some 3) (.string (t ++ (⟨#[109, 97, 105, 110, 32, 123, 10]⟩ : ByteArray))) rfl (by kernel_rfl) (by kernel_rfl) ?_
   refine wl_nil ?_
   try simp only [Act.put, List.setIfInBounds_toArray, List.set_cons_zero, List.set_cons_succ]
   go_wp2
   go_loopw [3, 7] (fun a i wr => ∃ (k : Nat) (u : ByteArray), a = .string u ∧ i = .int .i64 k ∧ k ≤ x.vars.length ∧ Hid (u ++ textVs (x.vars.drop k) = (t ++ (⟨#[109, 97, 105, 110, 32, 123, 10]⟩ : ByteArray)) ++ textVs x.vars) ∧ Hid (Bel WO wr) ∧ Hid (Blk wr G 51 #[.int .i64 xa, .string xn, .slice Ap x.params.length cp, .slice Av x.vars.length cv, .slice Ac x.cmds.length cc, .int .i64 rk, .int .i64 ra, .int .i64 rn, .string rs, .slice Ar x.result.args.length cr])) (fun _ i _ => x.vars.length - (intOf i).toNat)
   case atStart => exact ⟨0, (t ++ (⟨#[109, 97, 105, 110, 32, 123, 10]⟩ : ByteArray)), rfl, rfl, Nat.zero_le _, Lib.hid rfl, HBW, HK⟩
   case round =>
    obtain ⟨k, u, rfl, rfl, hk, HU, HBW, HK⟩ := hrel
    have hzu : (u ++ textVs (x.vars.drop k)).size ≤ 100000 := by
     rw [HU.out]
     have e1 : (⟨#[109, 97, 105, 110, 32, 123, 10]⟩ : ByteArray).size = 7 := rfl
     have e2 : maiB.size = 7 := rfl
     have e3 : funB.size = 5 := rfl
     have e4 : lparB.size = 1 := rfl
     have e5 : hedB.size = 4 := rfl
     have e6 : (⟨#[102, 117, 110, 99, 32]⟩ : ByteArray).size = 5 := rfl
     have e7 : (⟨#[40]⟩ : ByteArray).size = 1 := rfl
     have e8 : (⟨#[41, 32, 123, 10]⟩ : ByteArray).size = 4 := rfl
     simp only [ByteArray.size_append]
     omega
    by_cases hlt2 : k < x.vars.length
    ·have hd2 : decide ((k : Int) < x.vars.length) = true := decide_eq_true (by omega)
     obtain ⟨e, he⟩ : ∃ e, x.vars[k]? = some e := ⟨_, List.getElem?_eq_getElem hlt2⟩
     obtain ⟨vb, vo, rfl, hA2⟩ := HSV.out.lies (by omega)
     obtain ⟨y0, y1, -⟩ := tvR.cells hA2 he
     have Y0 := Lib.hid (HBW.out.cell y0)
     have Y1 := Lib.hid (HBW.out.cell y1)
     have HU2 : Hid ((u ++ e.text) ++ textVs (x.vars.drop (k + 1)) = (t ++ (⟨#[109, 97, 105, 110, 32, 123, 10]⟩ : ByteArray)) ++ textVs x.vars) := Lib.hid (by rw [ByteArray.append_assoc, ← textVs_drop he]; exact HU.out)
     rw [textVs_drop he] at hzu
     have hev := TV.range (HVK.out e (List.mem_of_getElem? he))
     have HDG := Lib.hid (fun W => digits_any e.size W hev)
     have i2 : (0 : Int) ≤ k := by omega
     have i3 : (k : Int) < x.vars.length := by omega
     clear he y0 y1 hA2 HU hev
     have c3 := HK.out.cell (i := 3) (v := .slice (some ⟨vb, vo, none⟩) x.vars.length cv) rfl
     have z1 := Y1.out
     by_cases he0 : e.size = 0
     ·have ht : e.text = vaB ++ (e.name ++ endB) := by unfold TV.text; rw [if_pos he0]
      rw [ht] at HU2 hzu
      simp only [ByteArray.size_append] at hzu
      have d0 : (e.size == 0) = true := by simpa using he0
      rw [he0] at z1
      go_upto_region 14 with fail
      clear c3 z1 d0 he0 ht
      refine wl_region ?_
      try dsimp only [List.append]
      refine wl_many 2 _ [((some 54), .string u), ((some 55), .pointer (some ⟨G, 3, none⟩))] rfl (by kernel_rfl) ?_
      refine wl_do (some 56) (.slice (some ⟨vb, vo, none⟩) x.vars.length cv) rfl (by kernel_rfl) (rl_vs rfl (by kernel_rfl) (HK.out.cell (i := 3) (v := .slice (some ⟨vb, vo, none⟩) x.vars.length cv) rfl)) ?_
      refine wl_do (some 57) (.int .i64 k) rfl (by kernel_rfl) (by kernel_rfl) ?_
      refine wl_do (some 58) (.pointer (some ⟨vb, vo + k * 2, none⟩)) rfl (by kernel_rfl) (rl_idxV (n := x.vars.length) (c := cv) rfl (by kernel_rfl) (by kernel_rfl) (by omega)) ?_
      refine wl_do (some 59) (.pointer (some ⟨vb, vo + k * 2, none⟩)) rfl (by kernel_rfl) (by kernel_rfl) ?_
      refine wl_do (some 60) (.string e.name) rfl (by kernel_rfl) (rl_str rfl (by kernel_rfl) Y0.out) ?_
      refine wl_do (some 61) (.string ((⟨#[32, 32, 118, 97, 114, 32]⟩ : ByteArray) ++ e.name)) rfl (by kernel_rfl) (rb_addS rfl (by kernel_rfl) (by kernel_rfl) (by have e0 : (⟨#[32, 32, 118, 97, 114, 32]⟩ : ByteArray).size = 6 := rfl; (try simp only [ByteArray.size_append]); omega)) ?_
      refine wl_do (some 62) (.string (((⟨#[32, 32, 118, 97, 114, 32]⟩ : ByteArray) ++ e.name) ++ (⟨#[59, 10]⟩ : ByteArray))) rfl (by kernel_rfl) (rb_addS rfl (by kernel_rfl) (by kernel_rfl) (by have e0 : (⟨#[32, 32, 118, 97, 114, 32]⟩ : ByteArray).size = 6 := rfl; have e1 : (⟨#[59, 10]⟩ : ByteArray).size = 2 := rfl; (try simp only [ByteArray.size_append]); omega)) ?_
      refine wl_do (some 63) (.string (u ++ (((⟨#[32, 32, 118, 97, 114, 32]⟩ : ByteArray) ++ e.name) ++ (⟨#[59, 10]⟩ : ByteArray)))) rfl (by kernel_rfl) (rb_addS rfl (by kernel_rfl) (by kernel_rfl) (by have e0 : (⟨#[32, 32, 118, 97, 114, 32]⟩ : ByteArray).size = 6 := rfl; have e1 : (⟨#[59, 10]⟩ : ByteArray).size = 2 := rfl; (try simp only [ByteArray.size_append]); omega)) ?_
      refine wl_do (some 3) (.string (u ++ (((⟨#[32, 32, 118, 97, 114, 32]⟩ : ByteArray) ++ e.name) ++ (⟨#[59, 10]⟩ : ByteArray)))) rfl (by kernel_rfl) (by kernel_rfl) ?_
      refine wl_nil ?_
      try simp only [putAll, Act.put, List.setIfInBounds_toArray, List.set_cons_zero, List.set_cons_succ]
      go_wp2
      go_roundw
      case rel => exact ⟨k + 1, _, rfl, by go_num, by omega, Lib.hid (by rw [← HU2.out]; simp only [ByteArray.append_assoc]; try rfl), HBW, HK⟩
      case measure => simp [intOf]; omega
     ·have ht : e.text = arB ++ (e.name ++ (spB ++ (digB e.size ++ endB))) := by unfold TV.text; rw [if_neg he0]
      rw [ht] at HU2 hzu
      simp only [ByteArray.size_append] at hzu
      have d0 : (e.size == 0) = false := by simpa using he0
      have z0 := Y0.out
      go_upto_region 15 with fail
      clear c3 z0 z1 d0 he0 ht
      obtain ⟨W9, hW9⟩ : ∃ W, W = wr := ⟨_, rfl⟩
      subst hW9
      refine wp_region_held_drew (S := fun W => Bel W9 W) (by kernel_rfl) ((Bel.rfl_ W9).dr) (fun hS => ?_)
      refine rt_t (i := 0) (some 64) (.string u) rfl hS (fun W _ => by kernel_rfl) ?_
      refine rt_t (i := 1) (some 65) (.pointer (some ⟨G, 3, none⟩)) rfl hS (fun W _ => by kernel_rfl) ?_
      refine rt_t (i := 2) (some 66) (.slice (some ⟨vb, vo, none⟩) x.vars.length cv) rfl hS (fun W hb => rl_vs rfl (by kernel_rfl) ((HK.out.keep hb).cell (i := 3) (v := .slice (some ⟨vb, vo, none⟩) x.vars.length cv) rfl)) ?_
      refine rt_t (i := 3) (some 67) (.int .i64 k) rfl hS (fun W _ => by kernel_rfl) ?_
      refine rt_t (i := 4) (some 68) (.pointer (some ⟨vb, vo + k * 2, none⟩)) rfl hS (fun W _ => rl_idxV (n := x.vars.length) (c := cv) rfl (by kernel_rfl) (by kernel_rfl) (by omega)) ?_
      refine rt_t (i := 5) (some 69) (.pointer (some ⟨vb, vo + k * 2, none⟩)) rfl hS (fun W _ => by kernel_rfl) ?_
      refine rt_t (i := 6) (some 70) (.string e.name) rfl hS (fun W hb => rl_str rfl (by kernel_rfl) (hb.cell Y0.out)) ?_
      refine rt_t (i := 7) (some 71) (.string ((⟨#[32, 32, 97, 114, 114, 32]⟩ : ByteArray) ++ e.name)) rfl hS (fun W _ => rb_addS rfl (by kernel_rfl) (by kernel_rfl) (by have e0 : (⟨#[32, 32, 97, 114, 114, 32]⟩ : ByteArray).size = 6 := rfl; (try simp only [ByteArray.size_append]); omega)) ?_
      refine rt_t (i := 8) (some 72) (.string (((⟨#[32, 32, 97, 114, 114, 32]⟩ : ByteArray) ++ e.name) ++ (⟨#[32]⟩ : ByteArray))) rfl hS (fun W _ => rb_addS rfl (by kernel_rfl) (by kernel_rfl) (by have e0 : (⟨#[32, 32, 97, 114, 114, 32]⟩ : ByteArray).size = 6 := rfl; have e1 : (⟨#[32]⟩ : ByteArray).size = 1 := rfl; (try simp only [ByteArray.size_append]); omega)) ?_
      refine rt_t (i := 9) (some 73) (.pointer (some ⟨G, 3, none⟩)) rfl hS (fun W _ => by kernel_rfl) ?_
      refine rt_t (i := 10) (some 74) (.slice (some ⟨vb, vo, none⟩) x.vars.length cv) rfl hS (fun W hb => rl_vs rfl (by kernel_rfl) ((HK.out.keep hb).cell (i := 3) (v := .slice (some ⟨vb, vo, none⟩) x.vars.length cv) rfl)) ?_
      refine rt_t (i := 11) (some 75) (.int .i64 k) rfl hS (fun W _ => by kernel_rfl) ?_
      refine rt_t (i := 12) (some 76) (.pointer (some ⟨vb, vo + k * 2, none⟩)) rfl hS (fun W _ => rl_idxV (n := x.vars.length) (c := cv) rfl (by kernel_rfl) (by kernel_rfl) (by omega)) ?_
      refine rt_t (i := 13) (some 77) (.pointer (some ⟨vb, vo + k * 2 + 1, none⟩)) rfl hS (fun W _ => by kernel_rfl) ?_
      refine rt_t (i := 14) (some 78) (.int .i64 e.size) rfl hS (fun W hb => rl_int rfl (by kernel_rfl) (hb.cell Y1.out)) ?_
      refine rt_call (i := 15) (some 79) (by kernel_rfl) rfl rfl (by kernel_rfl) 43 #[.int .i64 e.size] (by kernel_rfl) (HDG.out _) ?_
      rintro e' W' ⟨rfl, hb⟩
      refine ⟨_, rfl, hS.tr hb, fun hS => ?_⟩
      refine rt_t (i := 16) (some 80) (.string ((((⟨#[32, 32, 97, 114, 114, 32]⟩ : ByteArray) ++ e.name) ++ (⟨#[32]⟩ : ByteArray)) ++ (digB e.size))) rfl hS (fun W _ => rb_addS rfl (by kernel_rfl) (by kernel_rfl) (by have e0 : (⟨#[32, 32, 97, 114, 114, 32]⟩ : ByteArray).size = 6 := rfl; have e1 : (⟨#[32]⟩ : ByteArray).size = 1 := rfl; (try simp only [ByteArray.size_append]); omega)) ?_
      refine rt_t (i := 17) (some 81) (.string (((((⟨#[32, 32, 97, 114, 114, 32]⟩ : ByteArray) ++ e.name) ++ (⟨#[32]⟩ : ByteArray)) ++ (digB e.size)) ++ (⟨#[59, 10]⟩ : ByteArray))) rfl hS (fun W _ => rb_addS rfl (by kernel_rfl) (by kernel_rfl) (by have e0 : (⟨#[32, 32, 97, 114, 114, 32]⟩ : ByteArray).size = 6 := rfl; have e1 : (⟨#[32]⟩ : ByteArray).size = 1 := rfl; have e2 : (⟨#[59, 10]⟩ : ByteArray).size = 2 := rfl; (try simp only [ByteArray.size_append]); omega)) ?_
      refine rt_t (i := 18) (some 82) (.string (u ++ (((((⟨#[32, 32, 97, 114, 114, 32]⟩ : ByteArray) ++ e.name) ++ (⟨#[32]⟩ : ByteArray)) ++ (digB e.size)) ++ (⟨#[59, 10]⟩ : ByteArray)))) rfl hS (fun W _ => rb_addS rfl (by kernel_rfl) (by kernel_rfl) (by have e0 : (⟨#[32, 32, 97, 114, 114, 32]⟩ : ByteArray).size = 6 := rfl; have e1 : (⟨#[32]⟩ : ByteArray).size = 1 := rfl; have e2 : (⟨#[59, 10]⟩ : ByteArray).size = 2 := rfl; (try simp only [ByteArray.size_append]); omega)) ?_
      refine rt_t (i := 19) (some 3) (.string (u ++ (((((⟨#[32, 32, 97, 114, 114, 32]⟩ : ByteArray) ++ e.name) ++ (⟨#[32]⟩ : ByteArray)) ++ (digB e.size)) ++ (⟨#[59, 10]⟩ : ByteArray)))) rfl hS (fun W _ => by kernel_rfl) ?_
      refine wpAnyH_done (by kernel_rfl) ?_ _
      try simp only [Act.put, List.setIfInBounds_toArray, List.set_cons_zero, List.set_cons_succ]
      replace HBW := Lib.hid (HBW.out.tr hS)
      replace HK := Lib.hid (HK.out.keep hS)
      clear hS
      go_wp2
      go_roundw
      case rel => exact ⟨k + 1, _, rfl, by go_num, by omega, Lib.hid (by rw [← HU2.out]; simp only [ByteArray.append_assoc]; try rfl), HBW, HK⟩
      case measure => simp [intOf]; omega
    ·have hd2 : decide ((k : Int) < x.vars.length) = false := decide_eq_false (by omega)
     have HU2 : Hid (u = (t ++ (⟨#[109, 97, 105, 110, 32, 123, 10]⟩ : ByteArray)) ++ textVs x.vars) := Lib.hid (by rw [← HU.out, textVs_end (by omega)]; exact ByteArray.append_empty.symm)
     have hus : u.size = t.size + (maiB.size + (textVs x.vars).size) := by
      rw [HU2.out]
      simp only [ByteArray.size_append, Nat.add_assoc]
      try rfl
     have HS3 : Hid ((u ++ (CT ++ (emp ++ cloB))) ++ textFs (l.drop (j + 1)) = T) := Lib.hid (by rw [← HS2.out, HU2.out]; simp only [ByteArray.append_assoc]; try rfl)
     have hz2 : (u ++ (CT ++ (emp ++ cloB))).size ≤ 100000 := by
      simp only [ByteArray.size_append]
      omega
     replace HCT := Lib.hid (HCT.out (by omega))
     have c3 := HK.out.cell (i := 3) (v := .slice Av x.vars.length cv) rfl
     obtain ⟨W2, hW2⟩ : ∃ W, W = wr := ⟨_, rfl⟩
     subst hW2
     clear HU HU2 HS2 hzu hus hz
     simp only [ByteArray.size_append] at hz2
     go_upto_region 16 with fail
     clear c3
     refine wl_region ?_
     try dsimp only [List.append]
     refine wl_many 2 _ [((some 83), .string u), ((some 84), .pointer (some ⟨G, 4, none⟩))] rfl (by kernel_rfl) ?_
     refine wl_do (some 85) (.slice Ac x.cmds.length cc) rfl (by kernel_rfl) (rl_cs rfl (by kernel_rfl) (HK.out.cell (i := 4) (v := .slice Ac x.cmds.length cc) rfl)) ?_
     refine wl_call (some 86) rfl (by kernel_rfl) 44 #[.slice Ac x.cmds.length cc, .string (⟨#[32, 32]⟩ : ByteArray)] (by kernel_rfl) (HCT.out _ HBW.out) ?_
     rintro r W3 ⟨rfl, hb3⟩
     replace HBW := Lib.hid (HBW.out.tr hb3)
     replace HK := Lib.hid (HK.out.keep hb3)
     clear hb3
     refine ⟨_, rfl, ?_⟩
     refine wl_do (some 87) (.string (u ++ CT)) rfl (by kernel_rfl) (rb_addS rfl (by kernel_rfl) (by kernel_rfl) (by (try simp only [ByteArray.size_append]); omega)) ?_
     refine wl_do (some 3) (.string (u ++ CT)) rfl (by kernel_rfl) (by kernel_rfl) ?_
     refine wl_nil ?_
     try simp only [putAll, Act.put, List.setIfInBounds_toArray, List.set_cons_zero, List.set_cons_succ]
     go_upto_region 19 with fail
     refine wl_region ?_
     try dsimp only [List.append]
     refine wl_do (some 97) (.string (u ++ CT)) rfl (by kernel_rfl) (by kernel_rfl) ?_
     refine wl_do (some 98) (.string ((u ++ CT) ++ (⟨#[125, 10]⟩ : ByteArray))) rfl (by kernel_rfl) (rb_addS rfl (by kernel_rfl) (by kernel_rfl) (by have e0 : (⟨#[125, 10]⟩ : ByteArray).size = 2 := rfl; (try simp only [ByteArray.size_append]); omega)) ?_
     refine wl_do (some 3) (.string ((u ++ CT) ++ (⟨#[125, 10]⟩ : ByteArray))) rfl (by kernel_rfl) (by kernel_rfl) ?_
     refine wl_nil ?_
     try simp only [Act.put, List.setIfInBounds_toArray, List.set_cons_zero, List.set_cons_succ]
     have HNEW : Hid (((u ++ CT) ++ (⟨#[125, 10]⟩ : ByteArray)) ++ textFs (l.drop (j + 1)) = T) := Lib.hid (by rw [← HS3.out]; simp only [ByteArray.append_assoc, emp_app]; try rfl)
     have HQ2 := Lib.hid (HQ.out.keep HBW.out)
     go_wp2
     go_roundw
     case rel => exact ⟨j + 1, _, rfl, by go_num, by omega, HNEW, Lib.hid (HB.out.tr HBW.out), HQ2⟩
     case measure => simp [intOf]; omega
  | false =>
   rw [if_neg (by decide), if_neg (by decide)] at HS2 hz
   simp only [ByteArray.size_append] at hz
   replace HRX := Lib.hid (HRX.out rfl (by omega))
   go_upto_region 9 with fail
   clear c0
   obtain ⟨W9, hW9⟩ : ∃ W, W = W1 := ⟨_, rfl⟩
   subst hW9
   refine wp_region_held_drew (S := fun W => Bel W9 W) (by kernel_rfl) ((Bel.rfl_ W9).dr) (fun hS => ?_)
   refine rt_t (i := 0) (some 29) (.string t) rfl hS (fun W _ => by kernel_rfl) ?_
   refine rt_t (i := 1) (some 30) (.pointer (some ⟨G, 1, none⟩)) rfl hS (fun W _ => by kernel_rfl) ?_
   refine rt_t (i := 2) (some 31) (.string xn) rfl hS (fun W hb => rl_str rfl (by kernel_rfl) ((HK.out.keep hb).cell (i := 1) (v := .string xn) rfl)) ?_
   refine rt_t (i := 3) (some 32) (.string ((⟨#[102, 117, 110, 99, 32]⟩ : ByteArray) ++ xn)) rfl hS (fun W _ => rb_addS rfl (by kernel_rfl) (by kernel_rfl) (by have e0 : (⟨#[102, 117, 110, 99, 32]⟩ : ByteArray).size = 5 := rfl; (try simp only [ByteArray.size_append]); omega)) ?_
   refine rt_t (i := 4) (some 33) (.string (((⟨#[102, 117, 110, 99, 32]⟩ : ByteArray) ++ xn) ++ (⟨#[40]⟩ : ByteArray))) rfl hS (fun W _ => rb_addS rfl (by kernel_rfl) (by kernel_rfl) (by have e0 : (⟨#[102, 117, 110, 99, 32]⟩ : ByteArray).size = 5 := rfl; have e1 : (⟨#[40]⟩ : ByteArray).size = 1 := rfl; (try simp only [ByteArray.size_append]); omega)) ?_
   refine rt_t (i := 5) (some 34) (.pointer (some ⟨G, 2, none⟩)) rfl hS (fun W _ => by kernel_rfl) ?_
   refine rt_t (i := 6) (some 35) (.slice Ap x.params.length cp) rfl hS (fun W hb => rl_ss rfl (by kernel_rfl) ((HK.out.keep hb).cell (i := 2) (v := .slice Ap x.params.length cp) rfl)) ?_
   refine rt_call (i := 7) (some 36) (by kernel_rfl) rfl rfl (by kernel_rfl) 42 #[.slice Ap x.params.length cp] (by kernel_rfl) (HCO.out (by omega) _ (HBW.out.tr hS)) ?_
   rintro e W' ⟨rfl, hb⟩
   refine ⟨_, rfl, hS.tr hb, fun hS => ?_⟩
   refine rt_t (i := 8) (some 37) (.string ((((⟨#[102, 117, 110, 99, 32]⟩ : ByteArray) ++ xn) ++ (⟨#[40]⟩ : ByteArray)) ++ CM)) rfl hS (fun W _ => rb_addS rfl (by kernel_rfl) (by kernel_rfl) (by have e0 : (⟨#[102, 117, 110, 99, 32]⟩ : ByteArray).size = 5 := rfl; have e1 : (⟨#[40]⟩ : ByteArray).size = 1 := rfl; (try simp only [ByteArray.size_append]); omega)) ?_
   refine rt_t (i := 9) (some 38) (.string (((((⟨#[102, 117, 110, 99, 32]⟩ : ByteArray) ++ xn) ++ (⟨#[40]⟩ : ByteArray)) ++ CM) ++ (⟨#[41, 32, 123, 10]⟩ : ByteArray))) rfl hS (fun W _ => rb_addS rfl (by kernel_rfl) (by kernel_rfl) (by have e0 : (⟨#[102, 117, 110, 99, 32]⟩ : ByteArray).size = 5 := rfl; have e1 : (⟨#[40]⟩ : ByteArray).size = 1 := rfl; have e2 : (⟨#[41, 32, 123, 10]⟩ : ByteArray).size = 4 := rfl; (try simp only [ByteArray.size_append]); omega)) ?_
   refine rt_t (i := 10) (some 39) (.string (t ++ (((((⟨#[102, 117, 110, 99, 32]⟩ : ByteArray) ++ xn) ++ (⟨#[40]⟩ : ByteArray)) ++ CM) ++ (⟨#[41, 32, 123, 10]⟩ : ByteArray)))) rfl hS (fun W _ => rb_addS rfl (by kernel_rfl) (by kernel_rfl) (by have e0 : (⟨#[102, 117, 110, 99, 32]⟩ : ByteArray).size = 5 := rfl; have e1 : (⟨#[40]⟩ : ByteArray).size = 1 := rfl; have e2 : (⟨#[41, 32, 123, 10]⟩ : ByteArray).size = 4 := rfl; (try simp only [ByteArray.size_append]); omega)) ?_
   refine rt_t (i := 11) (some 3) (.string (t ++ (((((⟨#[102, 117, 110, 99, 32]⟩ : ByteArray) ++ xn) ++ (⟨#[40]⟩ : ByteArray)) ++ CM) ++ (⟨#[41, 32, 123, 10]⟩ : ByteArray)))) rfl hS (fun W _ => by kernel_rfl) ?_
   refine wpAnyH_done (by kernel_rfl) ?_ _
   try simp only [Act.put, List.setIfInBounds_toArray, List.set_cons_zero, List.set_cons_succ]
   replace HBW := Lib.hid (HBW.out.tr hS)
   replace HK := Lib.hid (HK.out.keep hS)
   clear hS HCO
   go_wp2
   go_loopw [3, 7] (fun a i wr => ∃ (k : Nat) (u : ByteArray), a = .string u ∧ i = .int .i64 k ∧ k ≤ x.vars.length ∧ Hid (u ++ textVs (x.vars.drop k) = (t ++ (((((⟨#[102, 117, 110, 99, 32]⟩ : ByteArray) ++ xn) ++ (⟨#[40]⟩ : ByteArray)) ++ CM) ++ (⟨#[41, 32, 123, 10]⟩ : ByteArray))) ++ textVs x.vars) ∧ Hid (Bel WO wr) ∧ Hid (Blk wr G 51 #[.int .i64 xa, .string xn, .slice Ap x.params.length cp, .slice Av x.vars.length cv, .slice Ac x.cmds.length cc, .int .i64 rk, .int .i64 ra, .int .i64 rn, .string rs, .slice Ar x.result.args.length cr])) (fun _ i _ => x.vars.length - (intOf i).toNat)
   case atStart => exact ⟨0, (t ++ (((((⟨#[102, 117, 110, 99, 32]⟩ : ByteArray) ++ xn) ++ (⟨#[40]⟩ : ByteArray)) ++ CM) ++ (⟨#[41, 32, 123, 10]⟩ : ByteArray))), rfl, rfl, Nat.zero_le _, Lib.hid rfl, HBW, HK⟩
   case round =>
    obtain ⟨k, u, rfl, rfl, hk, HU, HBW, HK⟩ := hrel
    have hzu : (u ++ textVs (x.vars.drop k)).size ≤ 100000 := by
     rw [HU.out]
     have e1 : (⟨#[109, 97, 105, 110, 32, 123, 10]⟩ : ByteArray).size = 7 := rfl
     have e2 : maiB.size = 7 := rfl
     have e3 : funB.size = 5 := rfl
     have e4 : lparB.size = 1 := rfl
     have e5 : hedB.size = 4 := rfl
     have e6 : (⟨#[102, 117, 110, 99, 32]⟩ : ByteArray).size = 5 := rfl
     have e7 : (⟨#[40]⟩ : ByteArray).size = 1 := rfl
     have e8 : (⟨#[41, 32, 123, 10]⟩ : ByteArray).size = 4 := rfl
     simp only [ByteArray.size_append]
     omega
    by_cases hlt2 : k < x.vars.length
    ·have hd2 : decide ((k : Int) < x.vars.length) = true := decide_eq_true (by omega)
     obtain ⟨e, he⟩ : ∃ e, x.vars[k]? = some e := ⟨_, List.getElem?_eq_getElem hlt2⟩
     obtain ⟨vb, vo, rfl, hA2⟩ := HSV.out.lies (by omega)
     obtain ⟨y0, y1, -⟩ := tvR.cells hA2 he
     have Y0 := Lib.hid (HBW.out.cell y0)
     have Y1 := Lib.hid (HBW.out.cell y1)
     have HU2 : Hid ((u ++ e.text) ++ textVs (x.vars.drop (k + 1)) = (t ++ (((((⟨#[102, 117, 110, 99, 32]⟩ : ByteArray) ++ xn) ++ (⟨#[40]⟩ : ByteArray)) ++ CM) ++ (⟨#[41, 32, 123, 10]⟩ : ByteArray))) ++ textVs x.vars) := Lib.hid (by rw [ByteArray.append_assoc, ← textVs_drop he]; exact HU.out)
     rw [textVs_drop he] at hzu
     have hev := TV.range (HVK.out e (List.mem_of_getElem? he))
     have HDG := Lib.hid (fun W => digits_any e.size W hev)
     have i2 : (0 : Int) ≤ k := by omega
     have i3 : (k : Int) < x.vars.length := by omega
     clear he y0 y1 hA2 HU hev
     have c3 := HK.out.cell (i := 3) (v := .slice (some ⟨vb, vo, none⟩) x.vars.length cv) rfl
     have z1 := Y1.out
     by_cases he0 : e.size = 0
     ·have ht : e.text = vaB ++ (e.name ++ endB) := by unfold TV.text; rw [if_pos he0]
      rw [ht] at HU2 hzu
      simp only [ByteArray.size_append] at hzu
      have d0 : (e.size == 0) = true := by simpa using he0
      rw [he0] at z1
      go_upto_region 14 with fail
      clear c3 z1 d0 he0 ht
      refine wl_region ?_
      try dsimp only [List.append]
      refine wl_many 2 _ [((some 54), .string u), ((some 55), .pointer (some ⟨G, 3, none⟩))] rfl (by kernel_rfl) ?_
      refine wl_do (some 56) (.slice (some ⟨vb, vo, none⟩) x.vars.length cv) rfl (by kernel_rfl) (rl_vs rfl (by kernel_rfl) (HK.out.cell (i := 3) (v := .slice (some ⟨vb, vo, none⟩) x.vars.length cv) rfl)) ?_
      refine wl_do (some 57) (.int .i64 k) rfl (by kernel_rfl) (by kernel_rfl) ?_
      refine wl_do (some 58) (.pointer (some ⟨vb, vo + k * 2, none⟩)) rfl (by kernel_rfl) (rl_idxV (n := x.vars.length) (c := cv) rfl (by kernel_rfl) (by kernel_rfl) (by omega)) ?_
      refine wl_do (some 59) (.pointer (some ⟨vb, vo + k * 2, none⟩)) rfl (by kernel_rfl) (by kernel_rfl) ?_
      refine wl_do (some 60) (.string e.name) rfl (by kernel_rfl) (rl_str rfl (by kernel_rfl) Y0.out) ?_
      refine wl_do (some 61) (.string ((⟨#[32, 32, 118, 97, 114, 32]⟩ : ByteArray) ++ e.name)) rfl (by kernel_rfl) (rb_addS rfl (by kernel_rfl) (by kernel_rfl) (by have e0 : (⟨#[32, 32, 118, 97, 114, 32]⟩ : ByteArray).size = 6 := rfl; (try simp only [ByteArray.size_append]); omega)) ?_
      refine wl_do (some 62) (.string (((⟨#[32, 32, 118, 97, 114, 32]⟩ : ByteArray) ++ e.name) ++ (⟨#[59, 10]⟩ : ByteArray))) rfl (by kernel_rfl) (rb_addS rfl (by kernel_rfl) (by kernel_rfl) (by have e0 : (⟨#[32, 32, 118, 97, 114, 32]⟩ : ByteArray).size = 6 := rfl; have e1 : (⟨#[59, 10]⟩ : ByteArray).size = 2 := rfl; (try simp only [ByteArray.size_append]); omega)) ?_
      refine wl_do (some 63) (.string (u ++ (((⟨#[32, 32, 118, 97, 114, 32]⟩ : ByteArray) ++ e.name) ++ (⟨#[59, 10]⟩ : ByteArray)))) rfl (by kernel_rfl) (rb_addS rfl (by kernel_rfl) (by kernel_rfl) (by have e0 : (⟨#[32, 32, 118, 97, 114, 32]⟩ : ByteArray).size = 6 := rfl; have e1 : (⟨#[59, 10]⟩ : ByteArray).size = 2 := rfl; (try simp only [ByteArray.size_append]); omega)) ?_
      refine wl_do (some 3) (.string (u ++ (((⟨#[32, 32, 118, 97, 114, 32]⟩ : ByteArray) ++ e.name) ++ (⟨#[59, 10]⟩ : ByteArray)))) rfl (by kernel_rfl) (by kernel_rfl) ?_
      refine wl_nil ?_
      try simp only [putAll, Act.put, List.setIfInBounds_toArray, List.set_cons_zero, List.set_cons_succ]
      go_wp2
      go_roundw
      case rel => exact ⟨k + 1, _, rfl, by go_num, by omega, Lib.hid (by rw [← HU2.out]; simp only [ByteArray.append_assoc]; try rfl), HBW, HK⟩
      case measure => simp [intOf]; omega
     ·have ht : e.text = arB ++ (e.name ++ (spB ++ (digB e.size ++ endB))) := by unfold TV.text; rw [if_neg he0]
      rw [ht] at HU2 hzu
      simp only [ByteArray.size_append] at hzu
      have d0 : (e.size == 0) = false := by simpa using he0
      have z0 := Y0.out
      go_upto_region 15 with fail
      clear c3 z0 z1 d0 he0 ht
      obtain ⟨W9, hW9⟩ : ∃ W, W = wr := ⟨_, rfl⟩
      subst hW9
      refine wp_region_held_drew (S := fun W => Bel W9 W) (by kernel_rfl) ((Bel.rfl_ W9).dr) (fun hS => ?_)
      refine rt_t (i := 0) (some 64) (.string u) rfl hS (fun W _ => by kernel_rfl) ?_
      refine rt_t (i := 1) (some 65) (.pointer (some ⟨G, 3, none⟩)) rfl hS (fun W _ => by kernel_rfl) ?_
      refine rt_t (i := 2) (some 66) (.slice (some ⟨vb, vo, none⟩) x.vars.length cv) rfl hS (fun W hb => rl_vs rfl (by kernel_rfl) ((HK.out.keep hb).cell (i := 3) (v := .slice (some ⟨vb, vo, none⟩) x.vars.length cv) rfl)) ?_
      refine rt_t (i := 3) (some 67) (.int .i64 k) rfl hS (fun W _ => by kernel_rfl) ?_
      refine rt_t (i := 4) (some 68) (.pointer (some ⟨vb, vo + k * 2, none⟩)) rfl hS (fun W _ => rl_idxV (n := x.vars.length) (c := cv) rfl (by kernel_rfl) (by kernel_rfl) (by omega)) ?_
      refine rt_t (i := 5) (some 69) (.pointer (some ⟨vb, vo + k * 2, none⟩)) rfl hS (fun W _ => by kernel_rfl) ?_
      refine rt_t (i := 6) (some 70) (.string e.name) rfl hS (fun W hb => rl_str rfl (by kernel_rfl) (hb.cell Y0.out)) ?_
      refine rt_t (i := 7) (some 71) (.string ((⟨#[32, 32, 97, 114, 114, 32]⟩ : ByteArray) ++ e.name)) rfl hS (fun W _ => rb_addS rfl (by kernel_rfl) (by kernel_rfl) (by have e0 : (⟨#[32, 32, 97, 114, 114, 32]⟩ : ByteArray).size = 6 := rfl; (try simp only [ByteArray.size_append]); omega)) ?_
      refine rt_t (i := 8) (some 72) (.string (((⟨#[32, 32, 97, 114, 114, 32]⟩ : ByteArray) ++ e.name) ++ (⟨#[32]⟩ : ByteArray))) rfl hS (fun W _ => rb_addS rfl (by kernel_rfl) (by kernel_rfl) (by have e0 : (⟨#[32, 32, 97, 114, 114, 32]⟩ : ByteArray).size = 6 := rfl; have e1 : (⟨#[32]⟩ : ByteArray).size = 1 := rfl; (try simp only [ByteArray.size_append]); omega)) ?_
      refine rt_t (i := 9) (some 73) (.pointer (some ⟨G, 3, none⟩)) rfl hS (fun W _ => by kernel_rfl) ?_
      refine rt_t (i := 10) (some 74) (.slice (some ⟨vb, vo, none⟩) x.vars.length cv) rfl hS (fun W hb => rl_vs rfl (by kernel_rfl) ((HK.out.keep hb).cell (i := 3) (v := .slice (some ⟨vb, vo, none⟩) x.vars.length cv) rfl)) ?_
      refine rt_t (i := 11) (some 75) (.int .i64 k) rfl hS (fun W _ => by kernel_rfl) ?_
      refine rt_t (i := 12) (some 76) (.pointer (some ⟨vb, vo + k * 2, none⟩)) rfl hS (fun W _ => rl_idxV (n := x.vars.length) (c := cv) rfl (by kernel_rfl) (by kernel_rfl) (by omega)) ?_
      refine rt_t (i := 13) (some 77) (.pointer (some ⟨vb, vo + k * 2 + 1, none⟩)) rfl hS (fun W _ => by kernel_rfl) ?_
      refine rt_t (i := 14) (some 78) (.int .i64 e.size) rfl hS (fun W hb => rl_int rfl (by kernel_rfl) (hb.cell Y1.out)) ?_
      refine rt_call (i := 15) (some 79) (by kernel_rfl) rfl rfl (by kernel_rfl) 43 #[.int .i64 e.size] (by kernel_rfl) (HDG.out _) ?_
      rintro e' W' ⟨rfl, hb⟩
      refine ⟨_, rfl, hS.tr hb, fun hS => ?_⟩
      refine rt_t (i := 16) (some 80) (.string ((((⟨#[32, 32, 97, 114, 114, 32]⟩ : ByteArray) ++ e.name) ++ (⟨#[32]⟩ : ByteArray)) ++ (digB e.size))) rfl hS (fun W _ => rb_addS rfl (by kernel_rfl) (by kernel_rfl) (by have e0 : (⟨#[32, 32, 97, 114, 114, 32]⟩ : ByteArray).size = 6 := rfl; have e1 : (⟨#[32]⟩ : ByteArray).size = 1 := rfl; (try simp only [ByteArray.size_append]); omega)) ?_
      refine rt_t (i := 17) (some 81) (.string (((((⟨#[32, 32, 97, 114, 114, 32]⟩ : ByteArray) ++ e.name) ++ (⟨#[32]⟩ : ByteArray)) ++ (digB e.size)) ++ (⟨#[59, 10]⟩ : ByteArray))) rfl hS (fun W _ => rb_addS rfl (by kernel_rfl) (by kernel_rfl) (by have e0 : (⟨#[32, 32, 97, 114, 114, 32]⟩ : ByteArray).size = 6 := rfl; have e1 : (⟨#[32]⟩ : ByteArray).size = 1 := rfl; have e2 : (⟨#[59, 10]⟩ : ByteArray).size = 2 := rfl; (try simp only [ByteArray.size_append]); omega)) ?_
      refine rt_t (i := 18) (some 82) (.string (u ++ (((((⟨#[32, 32, 97, 114, 114, 32]⟩ : ByteArray) ++ e.name) ++ (⟨#[32]⟩ : ByteArray)) ++ (digB e.size)) ++ (⟨#[59, 10]⟩ : ByteArray)))) rfl hS (fun W _ => rb_addS rfl (by kernel_rfl) (by kernel_rfl) (by have e0 : (⟨#[32, 32, 97, 114, 114, 32]⟩ : ByteArray).size = 6 := rfl; have e1 : (⟨#[32]⟩ : ByteArray).size = 1 := rfl; have e2 : (⟨#[59, 10]⟩ : ByteArray).size = 2 := rfl; (try simp only [ByteArray.size_append]); omega)) ?_
      refine rt_t (i := 19) (some 3) (.string (u ++ (((((⟨#[32, 32, 97, 114, 114, 32]⟩ : ByteArray) ++ e.name) ++ (⟨#[32]⟩ : ByteArray)) ++ (digB e.size)) ++ (⟨#[59, 10]⟩ : ByteArray)))) rfl hS (fun W _ => by kernel_rfl) ?_
      refine wpAnyH_done (by kernel_rfl) ?_ _
      try simp only [Act.put, List.setIfInBounds_toArray, List.set_cons_zero, List.set_cons_succ]
      replace HBW := Lib.hid (HBW.out.tr hS)
      replace HK := Lib.hid (HK.out.keep hS)
      clear hS
      go_wp2
      go_roundw
      case rel => exact ⟨k + 1, _, rfl, by go_num, by omega, Lib.hid (by rw [← HU2.out]; simp only [ByteArray.append_assoc]; try rfl), HBW, HK⟩
      case measure => simp [intOf]; omega
    ·have hd2 : decide ((k : Int) < x.vars.length) = false := decide_eq_false (by omega)
     have HU2 : Hid (u = (t ++ (((((⟨#[102, 117, 110, 99, 32]⟩ : ByteArray) ++ xn) ++ (⟨#[40]⟩ : ByteArray)) ++ CM) ++ (⟨#[41, 32, 123, 10]⟩ : ByteArray))) ++ textVs x.vars) := Lib.hid (by rw [← HU.out, textVs_end (by omega)]; exact ByteArray.append_empty.symm)
     have hus : u.size = t.size + (funB.size + (xn.size + (lparB.size + (CM.size + (hedB.size + (textVs x.vars).size))))) := by
      rw [HU2.out]
      simp only [ByteArray.size_append, Nat.add_assoc]
      try rfl
     have HS3 : Hid ((u ++ (CT ++ ((retB ++ (RT ++ endB)) ++ cloB))) ++ textFs (l.drop (j + 1)) = T) := Lib.hid (by rw [← HS2.out, HU2.out]; simp only [ByteArray.append_assoc]; try rfl)
     have hz2 : (u ++ (CT ++ ((retB ++ (RT ++ endB)) ++ cloB))).size ≤ 100000 := by
      simp only [ByteArray.size_append]
      omega
     replace HCT := Lib.hid (HCT.out (by omega))
     have c3 := HK.out.cell (i := 3) (v := .slice Av x.vars.length cv) rfl
     obtain ⟨W2, hW2⟩ : ∃ W, W = wr := ⟨_, rfl⟩
     subst hW2
     clear HU HU2 HS2 hzu hus hz
     simp only [ByteArray.size_append] at hz2
     go_upto_region 16 with fail
     clear c3
     refine wl_region ?_
     try dsimp only [List.append]
     refine wl_many 2 _ [((some 83), .string u), ((some 84), .pointer (some ⟨G, 4, none⟩))] rfl (by kernel_rfl) ?_
     refine wl_do (some 85) (.slice Ac x.cmds.length cc) rfl (by kernel_rfl) (rl_cs rfl (by kernel_rfl) (HK.out.cell (i := 4) (v := .slice Ac x.cmds.length cc) rfl)) ?_
     refine wl_call (some 86) rfl (by kernel_rfl) 44 #[.slice Ac x.cmds.length cc, .string (⟨#[32, 32]⟩ : ByteArray)] (by kernel_rfl) (HCT.out _ HBW.out) ?_
     rintro r W3 ⟨rfl, hb3⟩
     replace HBW := Lib.hid (HBW.out.tr hb3)
     replace HK := Lib.hid (HK.out.keep hb3)
     clear hb3
     refine ⟨_, rfl, ?_⟩
     refine wl_do (some 87) (.string (u ++ CT)) rfl (by kernel_rfl) (rb_addS rfl (by kernel_rfl) (by kernel_rfl) (by (try simp only [ByteArray.size_append]); omega)) ?_
     refine wl_do (some 3) (.string (u ++ CT)) rfl (by kernel_rfl) (by kernel_rfl) ?_
     refine wl_nil ?_
     try simp only [putAll, Act.put, List.setIfInBounds_toArray, List.set_cons_zero, List.set_cons_succ]
     go_upto_region 18 with fail
     refine wl_region ?_
     try dsimp only [List.append]
     refine wl_many 2 _ [((some 90), .string (u ++ CT)), ((some 91), .pointer (some ⟨G, 5, none⟩))] rfl (by kernel_rfl) ?_
     refine wl_do (some 92) (.agg #[.int .i64 rk, .int .i64 ra, .int .i64 rn, .string rs, .slice Ar x.result.args.length cr]) rfl (by kernel_rfl) (run_loadRow 49 (.tmp 91) rfl elTE G 5 (by kernel_rfl) [.int .i64 rk, .int .i64 ra, .int .i64 rn, .string rs, .slice Ar x.result.args.length cr] (blkRange HK.out 5 rfl) rfl (by kernel_rfl)) ?_
     refine wl_call (some 93) rfl (by kernel_rfl) 45 #[.agg #[.int .i64 rk, .int .i64 ra, .int .i64 rn, .string rs, .slice Ar x.result.args.length cr]] (by kernel_rfl) (HRX.out _ HBW.out) ?_
     rintro r W3 ⟨rfl, hb3⟩
     replace HBW := Lib.hid (HBW.out.tr hb3)
     replace HK := Lib.hid (HK.out.keep hb3)
     clear hb3
     refine ⟨_, rfl, ?_⟩
     refine wl_do (some 94) (.string ((⟨#[32, 32, 114, 101, 116, 117, 114, 110, 32]⟩ : ByteArray) ++ RT)) rfl (by kernel_rfl) (rb_addS rfl (by kernel_rfl) (by kernel_rfl) (by have e0 : (⟨#[32, 32, 114, 101, 116, 117, 114, 110, 32]⟩ : ByteArray).size = 9 := rfl; (try simp only [ByteArray.size_append]); omega)) ?_
     refine wl_do (some 95) (.string (((⟨#[32, 32, 114, 101, 116, 117, 114, 110, 32]⟩ : ByteArray) ++ RT) ++ (⟨#[59, 10]⟩ : ByteArray))) rfl (by kernel_rfl) (rb_addS rfl (by kernel_rfl) (by kernel_rfl) (by have e0 : (⟨#[32, 32, 114, 101, 116, 117, 114, 110, 32]⟩ : ByteArray).size = 9 := rfl; have e1 : (⟨#[59, 10]⟩ : ByteArray).size = 2 := rfl; (try simp only [ByteArray.size_append]); omega)) ?_
     refine wl_do (some 96) (.string ((u ++ CT) ++ (((⟨#[32, 32, 114, 101, 116, 117, 114, 110, 32]⟩ : ByteArray) ++ RT) ++ (⟨#[59, 10]⟩ : ByteArray)))) rfl (by kernel_rfl) (rb_addS rfl (by kernel_rfl) (by kernel_rfl) (by have e0 : (⟨#[32, 32, 114, 101, 116, 117, 114, 110, 32]⟩ : ByteArray).size = 9 := rfl; have e1 : (⟨#[59, 10]⟩ : ByteArray).size = 2 := rfl; (try simp only [ByteArray.size_append]); omega)) ?_
     refine wl_do (some 3) (.string ((u ++ CT) ++ (((⟨#[32, 32, 114, 101, 116, 117, 114, 110, 32]⟩ : ByteArray) ++ RT) ++ (⟨#[59, 10]⟩ : ByteArray)))) rfl (by kernel_rfl) (by kernel_rfl) ?_
     refine wl_nil ?_
     try simp only [putAll, Act.put, List.setIfInBounds_toArray, List.set_cons_zero, List.set_cons_succ]
     go_upto_region 19 with fail
     refine wl_region ?_
     try dsimp only [List.append]
     refine wl_do (some 97) (.string ((u ++ CT) ++ (((⟨#[32, 32, 114, 101, 116, 117, 114, 110, 32]⟩ : ByteArray) ++ RT) ++ (⟨#[59, 10]⟩ : ByteArray)))) rfl (by kernel_rfl) (by kernel_rfl) ?_
     refine wl_do (some 98) (.string (((u ++ CT) ++ (((⟨#[32, 32, 114, 101, 116, 117, 114, 110, 32]⟩ : ByteArray) ++ RT) ++ (⟨#[59, 10]⟩ : ByteArray))) ++ (⟨#[125, 10]⟩ : ByteArray))) rfl (by kernel_rfl) (rb_addS rfl (by kernel_rfl) (by kernel_rfl) (by have e0 : (⟨#[125, 10]⟩ : ByteArray).size = 2 := rfl; have e1 : (⟨#[32, 32, 114, 101, 116, 117, 114, 110, 32]⟩ : ByteArray).size = 9 := rfl; have e2 : (⟨#[59, 10]⟩ : ByteArray).size = 2 := rfl; (try simp only [ByteArray.size_append]); omega)) ?_
     refine wl_do (some 3) (.string (((u ++ CT) ++ (((⟨#[32, 32, 114, 101, 116, 117, 114, 110, 32]⟩ : ByteArray) ++ RT) ++ (⟨#[59, 10]⟩ : ByteArray))) ++ (⟨#[125, 10]⟩ : ByteArray))) rfl (by kernel_rfl) (by kernel_rfl) ?_
     refine wl_nil ?_
     try simp only [Act.put, List.setIfInBounds_toArray, List.set_cons_zero, List.set_cons_succ]
     have HNEW : Hid ((((u ++ CT) ++ (((⟨#[32, 32, 114, 101, 116, 117, 114, 110, 32]⟩ : ByteArray) ++ RT) ++ (⟨#[59, 10]⟩ : ByteArray))) ++ (⟨#[125, 10]⟩ : ByteArray)) ++ textFs (l.drop (j + 1)) = T) := Lib.hid (by rw [← HS3.out]; simp only [ByteArray.append_assoc]; try rfl)
     have HQ2 := Lib.hid (HQ.out.keep HBW.out)
     go_wp2
     go_roundw
     case rel => exact ⟨j + 1, _, rfl, by go_num, by omega, HNEW, Lib.hid (HB.out.tr HBW.out), HQ2⟩
     case measure => simp [intOf]; omega
end Go.Proofs.YtmfjlcpjemccmaaGreatDoor
