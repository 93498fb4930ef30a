/- The printer of trees prints variables and functions: walked. Each lemma states its own conditions. -/
import Derived.Test.YtmfjlcpjemccmaaGreatDoorSms34
namespace Go.Proofs.YtmfjlcpjemccmaaGreatDoor
open Go.RowKit
theorem PrS.up0 {B q : Nat} {s : ByteArray} {w : World} (h : PrS B q 0 s w) : PrS B q 1 s (w.setCell ⟨q, 2, none⟩ (.int .i64 1)) ∧ Kp B q w (w.setCell ⟨q, 2, none⟩ (.int .i64 1)) := Pr.to_ h 1
theorem PrS.down0 {B q : Nat} {s : ByteArray} {w : World} (h : PrS B q 1 s w) : PrS B q 0 s (w.setCell ⟨q, 2, none⟩ (.int .i64 0)) ∧ Kp B q w (w.setCell ⟨q, 2, none⟩ (.int .i64 0)) := Pr.to_ h 0
set_option maxRecDepth 20000 in
set_option maxHeartbeats 8000000 in
theorem prVars_any (w0 : World) (ht : Tab w0) (l : List TV) (q : Nat) (s : ByteArray) (v : Value) (w : World) (h : Sl tvR w0 v l) (hx : Bel w0 w) (hp : PrS w0.heap.size q 0 s w) (hok : ∀ v ∈ l, v.ok = true) (hz2 : s.size + (textVs l).size ≤ 500000) :
  Calls Tryz.prog 77 #[.pointer (some ⟨q, 0, none⟩), v] w fun r w' => r = .returned (.tuple #[]) ∧ PrS w0.heap.size q 0 (s ++ textVs l) w' ∧ Kp w0.heap.size q w w' := by
 have HSL := Hi_ h
 have HOK := Hi_ hok
 have HTB := Hi_ ht
 have HEND : Hid (s ++ textVs (l.drop 0) = s ++ textVs l) := Hi_ rfl
 have hz3 : (s ++ textVs l).size ≤ 500000 := by rw [ByteArray.size_append]; exact hz2
 obtain ⟨T, hT⟩ : ∃ T, s ++ textVs l = T := ⟨_, rfl⟩
 obtain ⟨A, c, rfl, hc, hm, -⟩ := h
 have hll : l.length ≤ 9223372036854775807 := by have := hm.1; simp only [maxLen] at this; omega
 obtain ⟨c2, f2⟩ := hp.deep
 obtain ⟨hu, hk⟩ := hp.up0
 have HP := Hi_ hu
 have HKp := Hi_ hk
 have HX := Hi_ (Kp.bel hx hk)
 have HPEND : Hid (∀ w', PrS w0.heap.size q 0 T w' → PrS w0.heap.size q 0 (s ++ textVs l) w') := Hi_ fun w' h => by rw [hT]; exact h
 rw [hT] at HEND hz3
 clear hc hm hok hp hu hk hz2 hx hT ht
 go_enter Tryz.func77, Tryz.ntmps77
 go_upto_region 1 with fail
 clear c2 f2
 generalize w.setCell ⟨q, 2, none⟩ (.int .i64 1) = W1 at *
 go_wp2
 go_loopw [15] (fun i wr => ∃ (j : Nat) (t : ByteArray), i = .int .i64 j ∧ j ≤ l.length ∧ Hid (t ++ textVs (l.drop j) = T) ∧ Hid (PrS w0.heap.size q 1 t wr) ∧ Hid (Kp w0.heap.size q w wr) ∧ Hid (Bel w0 wr)) (fun i _ => l.length - (intOf i).toNat)
 case atStart => exact ⟨0, s, rfl, Nat.zero_le _, HEND, HP, HKp, HX⟩
 case round =>
  obtain ⟨j, t, rfl, hj, HS, HP, HKp, HX⟩ := hrel
  obtain ⟨WO, hWO⟩ : ∃ W, W = wr := ⟨_, rfl⟩
  subst hWO
  clear HEND
  by_cases hlt : j < l.length
  rotate_left
  ·have hdd : decide ((j : Int) < l.length) = false := decide_eq_false (by omega)
   have HR : Hid (t = T) := Hi_ (by rw [← HS.out, textVs_end (by omega)]; exact ByteArray.append_empty.symm)
   obtain ⟨c2, f2⟩ := HP.out.deep
   obtain ⟨hd, hk⟩ := HP.out.down0
   have HPD := Hi_ hd
   have HKD := Hi_ (HKp.out.tr hk)
   clear hd hk
   have c2' : WO.cell? ⟨q, 2, none⟩ = some (.int .i64 1) := c2
   clear c2
   go_wp2
   go_end0
   refine ⟨rfl, HPEND.out _ ?_, ?_⟩
   ·rw [← HR.out]
    exact HPD.out
   ·exact HKD.out
  have hdd : decide ((j : Int) < l.length) = true := decide_eq_true (by omega)
  obtain ⟨x, hx⟩ : ∃ x, l[j]? = some x := ⟨_, List.getElem?_eq_getElem hlt⟩
  obtain ⟨b, o, rfl, hA⟩ := HSL.out.lies (by omega)
  obtain ⟨cs, ⟨rfl, -⟩, hca⟩ := hA j x hx
  have HS2 : Hid ((t ++ x.text) ++ textVs (l.drop (j + 1)) = T) := Hi_ (by rw [ByteArray.append_assoc, ← textVs_drop hx]; exact HS.out)
  have hz : t.size + x.text.size ≤ 500000 := by
   have h1 := hz3
   rw [← HS2.out, ByteArray.size_append, ByteArray.size_append] at h1
   omega
  have hsz := TV.range (HOK.out x (List.mem_of_getElem? hx))
  have HTX : Hid (x.text = if x.size = 0 then vaB ++ (x.name ++ endB) else arB ++ (x.name ++ (spB ++ (digB x.size ++ endB)))) := Hi_ rfl
  generalize x.text = X at *
  generalize x.name = nm at *
  generalize x.size = sz at *
  have i0 : (0 : Int) ≤ j := by omega
  have i1 : (j : Int) < l.length := by omega
  have hKq0 := Pr.lt HP.out
  have HCA : Hid (CellsAt WO b (o + j * 2) [.string nm, .int .i64 sz]) := Hi_ (hca.keep HX.out)
  clear hca hx HS HOK hA
  go_upto_region 3 with fail
  refine wl_region ?_
  try dsimp only [List.append]
  refine wl_e (some 17) (.pointer (some ⟨b, o + j * 2, none⟩)) (by go_simp) ?_
  refine wl_e (some 18) (.agg #[.string nm, .int .i64 sz]) (run_loadRow 55 (.tmp 17) rfl elTV b (o + j * 2) (by kernel_rfl) [.string nm, .int .i64 sz] HCA.out rfl (by kernel_rfl)) ?_
  refine wl_alloc (some 5) rfl 55 rfl rfl elTV fun z hzz => ?_
  refine wl_store none rfl 55 (.tmp 5) (.tmp 18) rfl rfl elTV WO.heap.size [.string nm, .int .i64 sz] (by kernel_rfl) (by kernel_rfl) (Blk.new WO 55 z) hzz rfl (by simp [Value.oneCell']) ?_
  have hb : Bel WO ((WO.alloc (.cells z 55)).setRow WO.heap.size #[.string nm, .int .i64 sz]) := ((Bel.rfl_ WO).al _).row (Nat.le_refl _) _
  have HK : Hid (Blk ((WO.alloc (.cells z 55)).setRow WO.heap.size #[.string nm, .int .i64 sz]) WO.heap.size 55 #[.string nm, .int .i64 sz]) := Hi_ ((Blk.new WO 55 z).row_same _)
  replace HKp := Hi_ (HKp.out.tr (Kp.of hb HX.out.size))
  replace HP := Hi_ (HP.out.keep hb)
  replace HX := Hi_ (HX.out.tr hb)
  have hKq : WO.heap.size ≠ q := by omega
  clear hb hKq0 HCA hzz
  refine wl_nil ?_
  try simp only [Act.put, lA, lB, lC]
  generalize (WO.alloc (.cells z 55)).setRow WO.heap.size #[.string nm, .int .i64 sz] = W2 at *
  generalize WO.heap.size = K at *
  have c1 := HK.out.cell (i := 1) (v := .int .i64 sz) rfl
  have b1 : endB.size = 2 := rfl
  have b2 : vaB.size = 6 := rfl
  have b3 : arB.size = 6 := rfl
  by_cases h0 : sz = 0
  ·have d0 : (sz == 0) = true := by simpa using h0
   rw [if_pos h0] at HTX
   rw [HTX.out] at hz
   simp only [ByteArray.size_append] at hz
   clear h0
   go_upto_region 5 with fail
   clear c1 d0
   refine wl_region ?_
   try dsimp only [List.append]
   refine wl_c 2 22 [.pointer (some ⟨q, 0, none⟩), .pointer (some ⟨K, 0, none⟩)] ?_
   refine wl_e (some 24) (.string nm) (rl_str_ (HK.out.cell (i := 0) (v := .string nm) rfl)) ?_
   refine wl_to (some 25) (.slice (some ⟨W2.heap.size, 0, none⟩) 3 3) _ rfl (by kernel_rfl) (run_bsS 3 _ [.string (⟨#[118, 97, 114, 32]⟩ : ByteArray), .string nm, .string (⟨#[59]⟩ : ByteArray)] rfl (by decide) (by decide) (by kernel_rfl)) ?_
   have HG := Hi_ (Blk.new W2 9 (List.toArray [.string (⟨#[118, 97, 114, 32]⟩ : ByteArray), .string nm, .string (⟨#[59]⟩ : ByteArray)]))
   replace HKp := Hi_ (HKp.out.tr (Kp.of ((Bel.rfl_ W2).al (.cells (List.toArray [.string (⟨#[118, 97, 114, 32]⟩ : ByteArray), .string nm, .string (⟨#[59]⟩ : ByteArray)]) 9)) HX.out.size))
   replace HX := Hi_ (HX.out.tr ((Bel.rfl_ W2).al (.cells (List.toArray [.string (⟨#[118, 97, 114, 32]⟩ : ByteArray), .string nm, .string (⟨#[59]⟩ : ByteArray)]) 9)))
   replace HP := Hi_ (HP.out.keep ((Bel.rfl_ W2).al (.cells (List.toArray [.string (⟨#[118, 97, 114, 32]⟩ : ByteArray), .string nm, .string (⟨#[59]⟩ : ByteArray)]) 9)))
   replace HK := Hi_ (HK.out.keep ((Bel.rfl_ W2).al (.cells (List.toArray [.string (⟨#[118, 97, 114, 32]⟩ : ByteArray), .string nm, .string (⟨#[59]⟩ : ByteArray)]) 9)))
   generalize W2.alloc (.cells (List.toArray [.string (⟨#[118, 97, 114, 32]⟩ : ByteArray), .string nm, .string (⟨#[59]⟩ : ByteArray)]) 9) = Wn1 at *
   generalize W2.heap.size = gWn1 at *
   refine wl_cl (some 26) 76 #[.pointer (some ⟨q, 0, none⟩), .slice (some ⟨gWn1, 0, none⟩) 3 3] (line_s [(⟨#[118, 97, 114, 32]⟩ : ByteArray), nm, (⟨#[59]⟩ : ByteArray)] gWn1 HP.out HX.out HG.out (by decide) (by omega) (by simp only [catB, ByteArray.size_append]; have e0 : (⟨#[118, 97, 114, 32]⟩ : ByteArray).size = 4 := rfl; have e1 : (⟨#[59]⟩ : ByteArray).size = 1 := rfl; have e9 : emp.size = 0 := rfl; omega) (by simp)) ?_
   rintro r Wn2 ⟨rfl, hp, hk⟩
   replace HX := Hi_ (Kp.bel HX.out hk)
   replace HKp := Hi_ (HKp.out.tr hk)
   replace HP := Hi_ hp
   replace HK := Hi_ (hk.blk HK.out hKq (by decide))
   clear hp hk
   refine ⟨_, rfl, ?_⟩
   refine wl_nil ?_
   try simp only [sP, Act.put, lA, lB, lC]
   have HN : Hid ((t ++ lineB 1 [⟨#[118, 97, 114, 32]⟩, nm, ⟨#[59]⟩]) ++ textVs (l.drop (j + 1)) = T) := Hi_ (by rw [lineVar, ← HTX.out]; exact HS2.out)
   go_wp2
   go_roundw
   case rel => exact ⟨j + 1, _, by go_num, by omega, HN, HP, HKp, HX⟩
   case measure => simp [intOf]; omega
  ·have d0 : (sz == 0) = false := by simpa using h0
   rw [if_neg h0] at HTX
   rw [HTX.out] at hz
   simp only [ByteArray.size_append] at hz
   clear h0
   go_upto_region 6 with fail
   clear c1 d0
   refine wp_region_held_drew (S := fun W => Blk W K 55 #[.string nm, .int .i64 sz]) (by kernel_rfl) (HK.out.keep (Bel.rfl_ _).dr) (fun hS => ?_)
   replace HKp := Hi_ (HKp.out.tr (Kp.of (Bel.rfl_ W2).dr HX.out.size))
   replace HX := Hi_ (HX.out.tr (Bel.rfl_ W2).dr)
   replace HP := Hi_ (HP.out.keep (Bel.rfl_ W2).dr)
   replace HK := Hi_ (HK.out.keep (Bel.rfl_ W2).dr)
   generalize W2.drew = Wn1 at *
   refine rt_t (i := 0) (some 27) (.pointer (some ⟨q, 0, none⟩)) rfl hS (fun W _ => by kernel_rfl) ?_
   refine rt_t (i := 1) (some 28) (.pointer (some ⟨K, 0, none⟩)) rfl hS (fun W _ => by kernel_rfl) ?_
   refine rt_t (i := 2) (some 29) (.string nm) rfl hS (fun W hb => rl_str_ (hb.cell (i := 0) (v := .string nm) rfl)) ?_
   refine rt_t (i := 3) (some 30) (.pointer (some ⟨K, 1, none⟩)) rfl hS (fun W _ => by kernel_rfl) ?_
   refine rt_t (i := 4) (some 31) (.int .i64 sz) rfl hS (fun W hb => rl_int_ (hb.cell (i := 1) (v := .int .i64 sz) rfl)) ?_
   refine rt_call (i := 5) (some 32) (by kernel_rfl) rfl rfl (by kernel_rfl) 135 #[.int .i64 sz] (by kernel_rfl) (itoa_any sz _ hsz (HTB.out.keep HX.out)) ?_
   rintro r Wn2 ⟨rfl, hb⟩
   replace HKp := Hi_ (HKp.out.tr (Kp.of hb HX.out.size))
   replace HX := Hi_ (HX.out.tr hb)
   replace HP := Hi_ (HP.out.keep hb)
   replace HK := Hi_ (HK.out.keep hb)
   clear hb
   refine ⟨_, rfl, HK.out, fun hS => ?_⟩
   refine rt_one (i := 6) (some 33) (by kernel_rfl) rfl rfl (by kernel_rfl) (.slice (some ⟨Wn2.heap.size, 0, none⟩) 5 5) (Wn2.alloc (.cells (List.toArray [.string (⟨#[97, 114, 114, 32]⟩ : ByteArray), .string nm, .string (⟨#[32]⟩ : ByteArray), .string (digB sz), .string (⟨#[59]⟩ : ByteArray)]) 9)) (run_bsS 5 _ [.string (⟨#[97, 114, 114, 32]⟩ : ByteArray), .string nm, .string (⟨#[32]⟩ : ByteArray), .string (digB sz), .string (⟨#[59]⟩ : ByteArray)] rfl (by decide) (by decide) (by kernel_rfl)) (HK.out.keep ((Bel.rfl_ _).al _)) (fun hS => ?_)
   have HG := Hi_ (Blk.new Wn2 9 (List.toArray [.string (⟨#[97, 114, 114, 32]⟩ : ByteArray), .string nm, .string (⟨#[32]⟩ : ByteArray), .string (digB sz), .string (⟨#[59]⟩ : ByteArray)]))
   replace HKp := Hi_ (HKp.out.tr (Kp.of ((Bel.rfl_ Wn2).al (.cells (List.toArray [.string (⟨#[97, 114, 114, 32]⟩ : ByteArray), .string nm, .string (⟨#[32]⟩ : ByteArray), .string (digB sz), .string (⟨#[59]⟩ : ByteArray)]) 9)) HX.out.size))
   replace HX := Hi_ (HX.out.tr ((Bel.rfl_ Wn2).al (.cells (List.toArray [.string (⟨#[97, 114, 114, 32]⟩ : ByteArray), .string nm, .string (⟨#[32]⟩ : ByteArray), .string (digB sz), .string (⟨#[59]⟩ : ByteArray)]) 9)))
   replace HP := Hi_ (HP.out.keep ((Bel.rfl_ Wn2).al (.cells (List.toArray [.string (⟨#[97, 114, 114, 32]⟩ : ByteArray), .string nm, .string (⟨#[32]⟩ : ByteArray), .string (digB sz), .string (⟨#[59]⟩ : ByteArray)]) 9)))
   replace HK := Hi_ (HK.out.keep ((Bel.rfl_ Wn2).al (.cells (List.toArray [.string (⟨#[97, 114, 114, 32]⟩ : ByteArray), .string nm, .string (⟨#[32]⟩ : ByteArray), .string (digB sz), .string (⟨#[59]⟩ : ByteArray)]) 9)))
   generalize Wn2.alloc (.cells (List.toArray [.string (⟨#[97, 114, 114, 32]⟩ : ByteArray), .string nm, .string (⟨#[32]⟩ : ByteArray), .string (digB sz), .string (⟨#[59]⟩ : ByteArray)]) 9) = Wn3 at *
   generalize Wn2.heap.size = gWn3 at *
   refine rt_call (i := 7) (some 34) (by kernel_rfl) rfl rfl (by kernel_rfl) 76 #[.pointer (some ⟨q, 0, none⟩), .slice (some ⟨gWn3, 0, none⟩) 5 5] (by kernel_rfl) (line_s [(⟨#[97, 114, 114, 32]⟩ : ByteArray), nm, (⟨#[32]⟩ : ByteArray), (digB sz), (⟨#[59]⟩ : ByteArray)] gWn3 HP.out HX.out HG.out (by decide) (by omega) (by simp only [catB, ByteArray.size_append]; have e0 : (⟨#[32]⟩ : ByteArray).size = 1 := rfl; have e1 : (⟨#[59]⟩ : ByteArray).size = 1 := rfl; have e2 : (⟨#[97, 114, 114, 32]⟩ : ByteArray).size = 4 := rfl; have e9 : emp.size = 0 := rfl; omega) (by simp)) ?_
   rintro r Wn4 ⟨rfl, hp, hk⟩
   replace HX := Hi_ (Kp.bel HX.out hk)
   replace HKp := Hi_ (HKp.out.tr hk)
   replace HP := Hi_ hp
   replace HK := Hi_ (hk.blk HK.out hKq (by decide))
   clear hp hk
   refine ⟨_, rfl, HK.out, fun hS => ?_⟩
   refine wpAnyH_done (by kernel_rfl) ?_ _
   try simp only [Act.put, lA, lB, lC]
   have HN : Hid ((t ++ lineB 1 [⟨#[97, 114, 114, 32]⟩, nm, ⟨#[32]⟩, digB sz, ⟨#[59]⟩]) ++ textVs (l.drop (j + 1)) = T) := Hi_ (by rw [lineArr, ← HTX.out]; exact HS2.out)
   go_wp2
   go_roundw
   case rel => exact ⟨j + 1, _, by go_num, by omega, HN, HP, HKp, HX⟩
   case measure => simp [intOf]; omega
theorem indB_zero (b : ByteArray) : indB 0 ++ b = b := ByteArray.empty_append
set_option maxRecDepth 20000 in
set_option maxHeartbeats 8000000 in
theorem prFn_any (w0 : World) (ht : Tab w0) (x : TF) (m : Bool) (q : Nat) (s : ByteArray) (cs : List Value) (w : World) (h : TFR w0 x cs) (hx : Bel w0 w) (hp : PrS w0.heap.size q 0 s w) (hok : x.ok m = true) (hz1 : (x.text m).size ≤ 100000) (hz2 : s.size + (x.text m).size ≤ 500000) :
  Calls Tryz.prog 34 #[.pointer (some ⟨q, 0, none⟩), .agg cs.toArray, .bool m] w fun r w' => r = .returned (.tuple #[]) ∧ PrS w0.heap.size q 0 (s ++ x.text m) w' ∧ Kp w0.heap.size q w w' := by
 obtain ⟨vp, vv, vc, vr, rfl, -, hrn, hsp, hsv, hsc, hsr⟩ := h
 obtain ⟨q1, q2, q3⟩ := TF.parts hok
 have HCO : Hid ((comsB x.params).size ≤ 1000000 → ∀ W, Bel w0 W → Calls Tryz.prog 64 #[vp, .string ⟨#[44, 32]⟩] W fun r w' => r = .returned (.string (comsB x.params)) ∧ Bel W w') := Hi_ fun h1 W hb => joinC_any x.params vp W (hsp.keep hb) h1
 have HRX : Hid (m = false → x.result.text.size ≤ 100000 → ∀ W, Bel w0 W → Calls Tryz.prog 79 #[.agg #[.int .i64 x.result.kind, .int .i64 x.result.at_, .int .i64 x.result.n, .string x.result.name, vr]] W fun r w' => r = .returned (.string x.result.text) ∧ Bel W w') := Hi_ fun h1 h2 W hb => showE_any x.result _ W ⟨_, rfl, hrn, hsr.keep hb⟩ (ht.keep hb) (q1 h1) h2
 have HVS := Hi_ (fun s W (h1 : Bel w0 W) (h2 : PrS w0.heap.size q 0 s W) (h3 : s.size + (textVs x.vars).size ≤ 500000) => prVars_any w0 ht x.vars q s vv W hsv h1 h2 q2 h3)
 have HBK : Hid ((textCs x.cmds twoB).size ≤ 100000 → ∀ s W, Bel w0 W → PrS w0.heap.size q 0 s W → s.size + (textCs x.cmds twoB).size ≤ 1000000 → Calls Tryz.prog 78 #[.pointer (some ⟨q, 0, none⟩), vc] W fun r w' => r = .returned (.tuple #[]) ∧ PrS w0.heap.size q 0 (s ++ textCs x.cmds twoB) w' ∧ Kp w0.heap.size q W w') := Hi_ fun h0 s W h1 h2 h3 => by
  have := prBlock_all w0 ht x.cmds 0 q s vc W hsc h1 h2 q3 (by decide)
  rw [indB_zero] at this
  exact this h0 h3
 have hKq0 := Pr.lt hp
 obtain ⟨Ap, cp, rfl, -⟩ := hsp
 obtain ⟨Av, cv, rfl, -⟩ := hsv
 obtain ⟨Ac, cc, rfl, -⟩ := hsc
 obtain ⟨Ar, cr, rfl, -⟩ := hsr
 clear hrn q1 q2 q3 hok ht
 have HTX : Hid (x.text m = (if m then maiB else funB ++ (x.name ++ (lparB ++ (comsB x.params ++ hedB)))) ++ (textVs x.vars ++ (textCs x.cmds twoB ++ ((if m then emp else retB ++ (x.result.text ++ endB)) ++ cloB)))) := Hi_ rfl
 generalize x.text m = X at *
 generalize x.result.text = RT at *
 generalize textCs x.cmds twoB = CT at *
 generalize textVs x.vars = VT at *
 generalize comsB x.params = CM at *
 generalize x.result.kind = rk at *
 generalize x.result.at_ = ra at *
 generalize x.result.n = rn at *
 generalize x.result.name = rs at *
 generalize x.at_ = xa at *
 generalize x.name = xn at *
 have HX := Hi_ (hx.al (.cells #[.int .i64 xa, .string xn, .slice Ap x.params.length cp, .slice Av x.vars.length cv, .slice Ac x.cmds.length cc, .int .i64 rk, .int .i64 ra, .int .i64 rn, .string rs, .slice Ar x.result.args.length cr] 51))
 have HK := Hi_ (Blk.new w 51 #[.int .i64 xa, .string xn, .slice Ap x.params.length cp, .slice Av x.vars.length cv, .slice Ac x.cmds.length cc, .int .i64 rk, .int .i64 ra, .int .i64 rn, .string rs, .slice Ar x.result.args.length cr])
 have HKp := Hi_ (Kp.of (q := q) ((Bel.rfl_ w).al (.cells #[.int .i64 xa, .string xn, .slice Ap x.params.length cp, .slice Av x.vars.length cv, .slice Ac x.cmds.length cc, .int .i64 rk, .int .i64 ra, .int .i64 rn, .string rs, .slice Ar x.result.args.length cr] 51)) hx.size)
 have HP := Hi_ (hp.keep ((Bel.rfl_ w).al (.cells #[.int .i64 xa, .string xn, .slice Ap x.params.length cp, .slice Av x.vars.length cv, .slice Ac x.cmds.length cc, .int .i64 rk, .int .i64 ra, .int .i64 rn, .string rs, .slice Ar x.result.args.length cr] 51)))
 have hKq : w.heap.size ≠ q := by omega
 have b1 : maiB.size = 7 := rfl
 have b2 : funB.size = 5 := rfl
 have b3 : lparB.size = 1 := rfl
 have b4 : hedB.size = 4 := rfl
 have b5 : retB.size = 9 := rfl
 have b6 : endB.size = 2 := rfl
 have b7 : cloB.size = 2 := rfl
 have hi0 := indB_size 0
 have hi1 := indB_size 1
 clear hx hp hKq0
 cases m with
 | true =>
  rw [if_pos rfl, if_pos rfl] at HTX
  rw [HTX.out] at hz1 hz2
  simp only [ByteArray.size_append] at hz1 hz2
  replace HBK := Hi_ (HBK.out (by omega))
  clear HRX HCO
  go_enter Tryz.func34, Tryz.ntmps34
  go_upto_region 1 with fail
  generalize w.alloc (.cells #[.int .i64 xa, .string xn, .slice Ap x.params.length cp, .slice Av x.vars.length cv, .slice Ac x.cmds.length cc, .int .i64 rk, .int .i64 ra, .int .i64 rn, .string rs, .slice Ar x.result.args.length cr] 51) = W1 at *
  generalize w.heap.size = K at *
  go_upto_region 2 with fail
  refine wl_region ?_
  try dsimp only [List.append]
  refine wl_k (some 7) (.pointer (some ⟨q, 0, none⟩)) ?_
  refine wl_to (some 8) (.slice (some ⟨W1.heap.size, 0, none⟩) 1 1) _ rfl (by kernel_rfl) (run_bsS 1 _ [.string (⟨#[109, 97, 105, 110, 32, 123]⟩ : ByteArray)] rfl (by decide) (by decide) (by kernel_rfl)) ?_
  have HG := Hi_ (Blk.new W1 9 (List.toArray [.string (⟨#[109, 97, 105, 110, 32, 123]⟩ : ByteArray)]))
  replace HKp := Hi_ (HKp.out.tr (Kp.of ((Bel.rfl_ W1).al (.cells (List.toArray [.string (⟨#[109, 97, 105, 110, 32, 123]⟩ : ByteArray)]) 9)) HX.out.size))
  replace HX := Hi_ (HX.out.tr ((Bel.rfl_ W1).al (.cells (List.toArray [.string (⟨#[109, 97, 105, 110, 32, 123]⟩ : ByteArray)]) 9)))
  replace HP := Hi_ (HP.out.keep ((Bel.rfl_ W1).al (.cells (List.toArray [.string (⟨#[109, 97, 105, 110, 32, 123]⟩ : ByteArray)]) 9)))
  replace HK := Hi_ (HK.out.keep ((Bel.rfl_ W1).al (.cells (List.toArray [.string (⟨#[109, 97, 105, 110, 32, 123]⟩ : ByteArray)]) 9)))
  generalize W1.alloc (.cells (List.toArray [.string (⟨#[109, 97, 105, 110, 32, 123]⟩ : ByteArray)]) 9) = Wn1 at *
  generalize W1.heap.size = gWn1 at *
  refine wl_cl (some 9) 76 #[.pointer (some ⟨q, 0, none⟩), .slice (some ⟨gWn1, 0, none⟩) 1 1] (line_s [(⟨#[109, 97, 105, 110, 32, 123]⟩ : ByteArray)] gWn1 HP.out HX.out HG.out (by decide) (by omega) (by simp only [catB, ByteArray.size_append]; have e0 : (⟨#[109, 97, 105, 110, 32, 123]⟩ : ByteArray).size = 6 := rfl; have e9 : emp.size = 0 := rfl; omega) (by simp)) ?_
  rintro r Wn2 ⟨rfl, hp, hk⟩
  replace HX := Hi_ (Kp.bel HX.out hk)
  replace HKp := Hi_ (HKp.out.tr hk)
  replace HP := Hi_ hp
  replace HK := Hi_ (hk.blk HK.out hKq (by decide))
  clear hp hk
  refine ⟨_, rfl, ?_⟩
  refine wl_nil ?_
  try simp only [Act.put, lA, lB, lC]
  go_upto_region 4 with fail
  refine wl_region ?_
  try dsimp only [List.append]
  refine wl_c 2 18 [.pointer (some ⟨q, 0, none⟩), .pointer (some ⟨K, 3, none⟩)] ?_
  refine wl_e (some 20) (.slice Av x.vars.length cv) (rl_vs_ (HK.out.cell (i := 3) (v := .slice Av x.vars.length cv) rfl)) ?_
  refine wl_cl (some 21) 77 #[.pointer (some ⟨q, 0, none⟩), .slice Av x.vars.length cv] (HVS.out _ _ HX.out HP.out (by simp only [lineB, catB, ByteArray.size_append]; have e0 : (⟨#[109, 97, 105, 110, 32, 123]⟩ : ByteArray).size = 6 := rfl; have e1 : (⟨#[10]⟩ : ByteArray).size = 1 := rfl; have e9 : emp.size = 0 := rfl; omega)) ?_
  rintro r Wn3 ⟨rfl, hp, hk⟩
  replace HX := Hi_ (Kp.bel HX.out hk)
  replace HKp := Hi_ (HKp.out.tr hk)
  replace HP := Hi_ hp
  replace HK := Hi_ (hk.blk HK.out hKq (by decide))
  clear hp hk
  refine ⟨_, rfl, ?_⟩
  refine wl_nil ?_
  try simp only [sP, Act.put, lA, lB, lC]
  go_upto_region 5 with fail
  refine wl_region ?_
  try dsimp only [List.append]
  refine wl_c 2 22 [.pointer (some ⟨q, 0, none⟩), .pointer (some ⟨K, 4, none⟩)] ?_
  refine wl_e (some 24) (.slice Ac x.cmds.length cc) (rl_cs_ (HK.out.cell (i := 4) (v := .slice Ac x.cmds.length cc) rfl)) ?_
  refine wl_cl (some 25) 78 #[.pointer (some ⟨q, 0, none⟩), .slice Ac x.cmds.length cc] (HBK.out _ _ HX.out HP.out (by simp only [lineB, catB, ByteArray.size_append]; have e0 : (⟨#[109, 97, 105, 110, 32, 123]⟩ : ByteArray).size = 6 := rfl; have e1 : (⟨#[10]⟩ : ByteArray).size = 1 := rfl; have e9 : emp.size = 0 := rfl; omega)) ?_
  rintro r Wn4 ⟨rfl, hp, hk⟩
  replace HX := Hi_ (Kp.bel HX.out hk)
  replace HKp := Hi_ (HKp.out.tr hk)
  replace HP := Hi_ hp
  replace HK := Hi_ (hk.blk HK.out hKq (by decide))
  clear hp hk
  refine ⟨_, rfl, ?_⟩
  refine wl_nil ?_
  try simp only [sP, Act.put, lA, lB, lC]
  go_upto_region 10 with fail
  refine wl_region ?_
  try dsimp only [List.append]
  refine wl_k (some 48) (.pointer (some ⟨q, 0, none⟩)) ?_
  refine wl_to (some 49) (.slice (some ⟨Wn4.heap.size, 0, none⟩) 1 1) _ rfl (by kernel_rfl) (run_bsS 1 _ [.string (⟨#[125]⟩ : ByteArray)] rfl (by decide) (by decide) (by kernel_rfl)) ?_
  have HG := Hi_ (Blk.new Wn4 9 (List.toArray [.string (⟨#[125]⟩ : ByteArray)]))
  replace HKp := Hi_ (HKp.out.tr (Kp.of ((Bel.rfl_ Wn4).al (.cells (List.toArray [.string (⟨#[125]⟩ : ByteArray)]) 9)) HX.out.size))
  replace HX := Hi_ (HX.out.tr ((Bel.rfl_ Wn4).al (.cells (List.toArray [.string (⟨#[125]⟩ : ByteArray)]) 9)))
  replace HP := Hi_ (HP.out.keep ((Bel.rfl_ Wn4).al (.cells (List.toArray [.string (⟨#[125]⟩ : ByteArray)]) 9)))
  replace HK := Hi_ (HK.out.keep ((Bel.rfl_ Wn4).al (.cells (List.toArray [.string (⟨#[125]⟩ : ByteArray)]) 9)))
  generalize Wn4.alloc (.cells (List.toArray [.string (⟨#[125]⟩ : ByteArray)]) 9) = Wn5 at *
  generalize Wn4.heap.size = gWn5 at *
  refine wl_cl (some 50) 76 #[.pointer (some ⟨q, 0, none⟩), .slice (some ⟨gWn5, 0, none⟩) 1 1] (line_s [(⟨#[125]⟩ : ByteArray)] gWn5 HP.out HX.out HG.out (by decide) (by simp only [lineB, catB, ByteArray.size_append]; have e0 : (⟨#[109, 97, 105, 110, 32, 123]⟩ : ByteArray).size = 6 := rfl; have e1 : (⟨#[10]⟩ : ByteArray).size = 1 := rfl; have e9 : emp.size = 0 := rfl; omega) (by simp only [catB, ByteArray.size_append]; have e0 : (⟨#[125]⟩ : ByteArray).size = 1 := rfl; have e9 : emp.size = 0 := rfl; omega) (by simp)) ?_
  rintro r Wn6 ⟨rfl, hp, hk⟩
  replace HX := Hi_ (Kp.bel HX.out hk)
  replace HKp := Hi_ (HKp.out.tr hk)
  replace HP := Hi_ hp
  replace HK := Hi_ (hk.blk HK.out hKq (by decide))
  clear hp hk
  refine ⟨_, rfl, ?_⟩
  refine wl_nil ?_
  try simp only [Act.put, lA, lB, lC]
  go_wp2
  go_end0
  have hF := HP.out
  rw [lineMain, lineEnd] at hF
  refine ⟨rfl, ?_, HKp.out⟩
  rw [HTX.out]
  simp only [ByteArray.append_assoc, emp_app, indB_zero] at hF ⊢
  exact hF
 | false =>
  rw [if_neg (by decide), if_neg (by decide)] at HTX
  rw [HTX.out] at hz1 hz2
  simp only [ByteArray.size_append] at hz1 hz2
  replace HBK := Hi_ (HBK.out (by omega))
  replace HCO := Hi_ (HCO.out (by omega))
  replace HRX := Hi_ (HRX.out rfl (by omega))
  go_enter Tryz.func34, Tryz.ntmps34
  go_upto_region 1 with fail
  generalize w.alloc (.cells #[.int .i64 xa, .string xn, .slice Ap x.params.length cp, .slice Av x.vars.length cv, .slice Ac x.cmds.length cc, .int .i64 rk, .int .i64 ra, .int .i64 rn, .string rs, .slice Ar x.result.args.length cr] 51) = W1 at *
  generalize w.heap.size = K at *
  go_upto_region 3 with fail
  refine wp_region_held_drew (S := fun W => Blk W K 51 #[.int .i64 xa, .string xn, .slice Ap x.params.length cp, .slice Av x.vars.length cv, .slice Ac x.cmds.length cc, .int .i64 rk, .int .i64 ra, .int .i64 rn, .string rs, .slice Ar x.result.args.length cr]) (by kernel_rfl) (HK.out.keep (Bel.rfl_ _).dr) (fun hS => ?_)
  replace HKp := Hi_ (HKp.out.tr (Kp.of (Bel.rfl_ W1).dr HX.out.size))
  replace HX := Hi_ (HX.out.tr (Bel.rfl_ W1).dr)
  replace HP := Hi_ (HP.out.keep (Bel.rfl_ W1).dr)
  replace HK := Hi_ (HK.out.keep (Bel.rfl_ W1).dr)
  generalize W1.drew = Wn1 at *
  refine rt_t (i := 0) (some 10) (.pointer (some ⟨q, 0, none⟩)) rfl hS (fun W _ => by kernel_rfl) ?_
  refine rt_t (i := 1) (some 11) (.pointer (some ⟨K, 1, none⟩)) rfl hS (fun W _ => by kernel_rfl) ?_
  refine rt_t (i := 2) (some 12) (.string xn) rfl hS (fun W hb => rl_str_ (hb.cell (i := 1) (v := .string xn) rfl)) ?_
  refine rt_t (i := 3) (some 13) (.pointer (some ⟨K, 2, none⟩)) rfl hS (fun W _ => by kernel_rfl) ?_
  refine rt_t (i := 4) (some 14) (.slice Ap x.params.length cp) rfl hS (fun W hb => rl_ss_ (hb.cell (i := 2) (v := .slice Ap x.params.length cp) rfl)) ?_
  refine rt_call (i := 5) (some 15) (by kernel_rfl) rfl rfl (by kernel_rfl) 64 #[.slice Ap x.params.length cp, .string (⟨#[44, 32]⟩ : ByteArray)] (by kernel_rfl) (HCO.out _ HX.out) ?_
  rintro r Wn2 ⟨rfl, hb⟩
  replace HKp := Hi_ (HKp.out.tr (Kp.of hb HX.out.size))
  replace HX := Hi_ (HX.out.tr hb)
  replace HP := Hi_ (HP.out.keep hb)
  replace HK := Hi_ (HK.out.keep hb)
  clear hb
  refine ⟨_, rfl, HK.out, fun hS => ?_⟩
  refine rt_one (i := 6) (some 16) (by kernel_rfl) rfl rfl (by kernel_rfl) (.slice (some ⟨Wn2.heap.size, 0, none⟩) 5 5) (Wn2.alloc (.cells (List.toArray [.string (⟨#[102, 117, 110, 99, 32]⟩ : ByteArray), .string xn, .string (⟨#[40]⟩ : ByteArray), .string CM, .string (⟨#[41, 32, 123]⟩ : ByteArray)]) 9)) (run_bsS 5 _ [.string (⟨#[102, 117, 110, 99, 32]⟩ : ByteArray), .string xn, .string (⟨#[40]⟩ : ByteArray), .string CM, .string (⟨#[41, 32, 123]⟩ : ByteArray)] rfl (by decide) (by decide) (by kernel_rfl)) (HK.out.keep ((Bel.rfl_ _).al _)) (fun hS => ?_)
  have HG := Hi_ (Blk.new Wn2 9 (List.toArray [.string (⟨#[102, 117, 110, 99, 32]⟩ : ByteArray), .string xn, .string (⟨#[40]⟩ : ByteArray), .string CM, .string (⟨#[41, 32, 123]⟩ : ByteArray)]))
  replace HKp := Hi_ (HKp.out.tr (Kp.of ((Bel.rfl_ Wn2).al (.cells (List.toArray [.string (⟨#[102, 117, 110, 99, 32]⟩ : ByteArray), .string xn, .string (⟨#[40]⟩ : ByteArray), .string CM, .string (⟨#[41, 32, 123]⟩ : ByteArray)]) 9)) HX.out.size))
  replace HX := Hi_ (HX.out.tr ((Bel.rfl_ Wn2).al (.cells (List.toArray [.string (⟨#[102, 117, 110, 99, 32]⟩ : ByteArray), .string xn, .string (⟨#[40]⟩ : ByteArray), .string CM, .string (⟨#[41, 32, 123]⟩ : ByteArray)]) 9)))
  replace HP := Hi_ (HP.out.keep ((Bel.rfl_ Wn2).al (.cells (List.toArray [.string (⟨#[102, 117, 110, 99, 32]⟩ : ByteArray), .string xn, .string (⟨#[40]⟩ : ByteArray), .string CM, .string (⟨#[41, 32, 123]⟩ : ByteArray)]) 9)))
  replace HK := Hi_ (HK.out.keep ((Bel.rfl_ Wn2).al (.cells (List.toArray [.string (⟨#[102, 117, 110, 99, 32]⟩ : ByteArray), .string xn, .string (⟨#[40]⟩ : ByteArray), .string CM, .string (⟨#[41, 32, 123]⟩ : ByteArray)]) 9)))
  generalize Wn2.alloc (.cells (List.toArray [.string (⟨#[102, 117, 110, 99, 32]⟩ : ByteArray), .string xn, .string (⟨#[40]⟩ : ByteArray), .string CM, .string (⟨#[41, 32, 123]⟩ : ByteArray)]) 9) = Wn3 at *
  generalize Wn2.heap.size = gWn3 at *
  refine rt_call (i := 7) (some 17) (by kernel_rfl) rfl rfl (by kernel_rfl) 76 #[.pointer (some ⟨q, 0, none⟩), .slice (some ⟨gWn3, 0, none⟩) 5 5] (by kernel_rfl) (line_s [(⟨#[102, 117, 110, 99, 32]⟩ : ByteArray), xn, (⟨#[40]⟩ : ByteArray), CM, (⟨#[41, 32, 123]⟩ : ByteArray)] gWn3 HP.out HX.out HG.out (by decide) (by omega) (by simp only [catB, ByteArray.size_append]; have e0 : (⟨#[102, 117, 110, 99, 32]⟩ : ByteArray).size = 5 := rfl; have e1 : (⟨#[40]⟩ : ByteArray).size = 1 := rfl; have e2 : (⟨#[41, 32, 123]⟩ : ByteArray).size = 3 := rfl; have e9 : emp.size = 0 := rfl; omega) (by simp)) ?_
  rintro r Wn4 ⟨rfl, hp, hk⟩
  replace HX := Hi_ (Kp.bel HX.out hk)
  replace HKp := Hi_ (HKp.out.tr hk)
  replace HP := Hi_ hp
  replace HK := Hi_ (hk.blk HK.out hKq (by decide))
  clear hp hk
  refine ⟨_, rfl, HK.out, fun hS => ?_⟩
  refine wpAnyH_done (by kernel_rfl) ?_ _
  try simp only [Act.put, lA, lB, lC]
  go_upto_region 4 with fail
  refine wl_region ?_
  try dsimp only [List.append]
  refine wl_c 2 18 [.pointer (some ⟨q, 0, none⟩), .pointer (some ⟨K, 3, none⟩)] ?_
  refine wl_e (some 20) (.slice Av x.vars.length cv) (rl_vs_ (HK.out.cell (i := 3) (v := .slice Av x.vars.length cv) rfl)) ?_
  refine wl_cl (some 21) 77 #[.pointer (some ⟨q, 0, none⟩), .slice Av x.vars.length cv] (HVS.out _ _ HX.out HP.out (by simp only [lineB, catB, ByteArray.size_append]; have e0 : (⟨#[102, 117, 110, 99, 32]⟩ : ByteArray).size = 5 := rfl; have e1 : (⟨#[10]⟩ : ByteArray).size = 1 := rfl; have e2 : (⟨#[40]⟩ : ByteArray).size = 1 := rfl; have e3 : (⟨#[41, 32, 123]⟩ : ByteArray).size = 3 := rfl; have e9 : emp.size = 0 := rfl; omega)) ?_
  rintro r Wn5 ⟨rfl, hp, hk⟩
  replace HX := Hi_ (Kp.bel HX.out hk)
  replace HKp := Hi_ (HKp.out.tr hk)
  replace HP := Hi_ hp
  replace HK := Hi_ (hk.blk HK.out hKq (by decide))
  clear hp hk
  refine ⟨_, rfl, ?_⟩
  refine wl_nil ?_
  try simp only [sP, Act.put, lA, lB, lC]
  go_upto_region 5 with fail
  refine wl_region ?_
  try dsimp only [List.append]
  refine wl_c 2 22 [.pointer (some ⟨q, 0, none⟩), .pointer (some ⟨K, 4, none⟩)] ?_
  refine wl_e (some 24) (.slice Ac x.cmds.length cc) (rl_cs_ (HK.out.cell (i := 4) (v := .slice Ac x.cmds.length cc) rfl)) ?_
  refine wl_cl (some 25) 78 #[.pointer (some ⟨q, 0, none⟩), .slice Ac x.cmds.length cc] (HBK.out _ _ HX.out HP.out (by simp only [lineB, catB, ByteArray.size_append]; have e0 : (⟨#[102, 117, 110, 99, 32]⟩ : ByteArray).size = 5 := rfl; have e1 : (⟨#[10]⟩ : ByteArray).size = 1 := rfl; have e2 : (⟨#[40]⟩ : ByteArray).size = 1 := rfl; have e3 : (⟨#[41, 32, 123]⟩ : ByteArray).size = 3 := rfl; have e9 : emp.size = 0 := rfl; omega)) ?_
  rintro r Wn6 ⟨rfl, hp, hk⟩
  replace HX := Hi_ (Kp.bel HX.out hk)
  replace HKp := Hi_ (HKp.out.tr hk)
  replace HP := Hi_ hp
  replace HK := Hi_ (hk.blk HK.out hKq (by decide))
  clear hp hk
  refine ⟨_, rfl, ?_⟩
  refine wl_nil ?_
  try simp only [sP, Act.put, lA, lB, lC]
  obtain ⟨c2, f2⟩ := HP.out.deep
  obtain ⟨hu, hk⟩ := HP.out.up0
  have HK2 := Hi_ (hk.blk HK.out hKq (by decide))
  have HX2 := Hi_ (Kp.bel HX.out hk)
  have HKp2 := Hi_ (HKp.out.tr hk)
  have HP2 := Hi_ hu
  clear hu hk
  have c2' : Wn6.cell? ⟨q, 2, none⟩ = some (.int .i64 0) := c2
  clear c2
  go_upto_region 8 with fail
  clear c2' f2 HP HX HKp HK
  generalize Wn6.setCell ⟨q, 2, none⟩ (.int .i64 1) = Wu at *
  obtain ⟨HX, HKp, HP, HK⟩ : Hid (Bel w0 Wu) ∧ Hid (Kp w0.heap.size q w Wu) ∧ Hid (PrS w0.heap.size q 1 _ Wu) ∧ Hid (Blk Wu K 51 #[.int .i64 xa, .string xn, .slice Ap x.params.length cp, .slice Av x.vars.length cv, .slice Ac x.cmds.length cc, .int .i64 rk, .int .i64 ra, .int .i64 rn, .string rs, .slice Ar x.result.args.length cr]) := ⟨HX2, HKp2, HP2, HK2⟩
  clear HX2 HKp2 HP2 HK2
  refine wl_region ?_
  try dsimp only [List.append]
  refine wl_c 2 35 [.pointer (some ⟨q, 0, none⟩), .pointer (some ⟨K, 5, none⟩)] ?_
  refine wl_e (some 37) (.agg #[.int .i64 rk, .int .i64 ra, .int .i64 rn, .string rs, .slice Ar x.result.args.length cr]) (run_loadRow 49 (.tmp 36) rfl elTE K 5 (by kernel_rfl) [.int .i64 rk, .int .i64 ra, .int .i64 rn, .string rs, .slice Ar x.result.args.length cr] (blkRange HK.out 5 rfl) rfl (by kernel_rfl)) ?_
  refine wl_cl (some 38) 79 #[.agg #[.int .i64 rk, .int .i64 ra, .int .i64 rn, .string rs, .slice Ar x.result.args.length cr]] (HRX.out _ HX.out) ?_
  rintro r Wn7 ⟨rfl, hb⟩
  replace HKp := Hi_ (HKp.out.tr (Kp.of hb HX.out.size))
  replace HX := Hi_ (HX.out.tr hb)
  replace HP := Hi_ (HP.out.keep hb)
  replace HK := Hi_ (HK.out.keep hb)
  clear hb
  refine ⟨_, rfl, ?_⟩
  refine wl_to (some 39) (.slice (some ⟨Wn7.heap.size, 0, none⟩) 3 3) _ rfl (by kernel_rfl) (run_bsS 3 _ [.string (⟨#[114, 101, 116, 117, 114, 110, 32]⟩ : ByteArray), .string RT, .string (⟨#[59]⟩ : ByteArray)] rfl (by decide) (by decide) (by kernel_rfl)) ?_
  have HG := Hi_ (Blk.new Wn7 9 (List.toArray [.string (⟨#[114, 101, 116, 117, 114, 110, 32]⟩ : ByteArray), .string RT, .string (⟨#[59]⟩ : ByteArray)]))
  replace HKp := Hi_ (HKp.out.tr (Kp.of ((Bel.rfl_ Wn7).al (.cells (List.toArray [.string (⟨#[114, 101, 116, 117, 114, 110, 32]⟩ : ByteArray), .string RT, .string (⟨#[59]⟩ : ByteArray)]) 9)) HX.out.size))
  replace HX := Hi_ (HX.out.tr ((Bel.rfl_ Wn7).al (.cells (List.toArray [.string (⟨#[114, 101, 116, 117, 114, 110, 32]⟩ : ByteArray), .string RT, .string (⟨#[59]⟩ : ByteArray)]) 9)))
  replace HP := Hi_ (HP.out.keep ((Bel.rfl_ Wn7).al (.cells (List.toArray [.string (⟨#[114, 101, 116, 117, 114, 110, 32]⟩ : ByteArray), .string RT, .string (⟨#[59]⟩ : ByteArray)]) 9)))
  replace HK := Hi_ (HK.out.keep ((Bel.rfl_ Wn7).al (.cells (List.toArray [.string (⟨#[114, 101, 116, 117, 114, 110, 32]⟩ : ByteArray), .string RT, .string (⟨#[59]⟩ : ByteArray)]) 9)))
  generalize Wn7.alloc (.cells (List.toArray [.string (⟨#[114, 101, 116, 117, 114, 110, 32]⟩ : ByteArray), .string RT, .string (⟨#[59]⟩ : ByteArray)]) 9) = Wn8 at *
  generalize Wn7.heap.size = gWn8 at *
  refine wl_cl (some 40) 76 #[.pointer (some ⟨q, 0, none⟩), .slice (some ⟨gWn8, 0, none⟩) 3 3] (line_s [(⟨#[114, 101, 116, 117, 114, 110, 32]⟩ : ByteArray), RT, (⟨#[59]⟩ : ByteArray)] gWn8 HP.out HX.out HG.out (by decide) (by simp only [lineB, catB, ByteArray.size_append]; have e0 : (⟨#[102, 117, 110, 99, 32]⟩ : ByteArray).size = 5 := rfl; have e1 : (⟨#[10]⟩ : ByteArray).size = 1 := rfl; have e2 : (⟨#[40]⟩ : ByteArray).size = 1 := rfl; have e3 : (⟨#[41, 32, 123]⟩ : ByteArray).size = 3 := rfl; have e9 : emp.size = 0 := rfl; omega) (by simp only [catB, ByteArray.size_append]; have e0 : (⟨#[114, 101, 116, 117, 114, 110, 32]⟩ : ByteArray).size = 7 := rfl; have e1 : (⟨#[59]⟩ : ByteArray).size = 1 := rfl; have e9 : emp.size = 0 := rfl; omega) (by simp)) ?_
  rintro r Wn9 ⟨rfl, hp, hk⟩
  replace HX := Hi_ (Kp.bel HX.out hk)
  replace HKp := Hi_ (HKp.out.tr hk)
  replace HP := Hi_ hp
  replace HK := Hi_ (hk.blk HK.out hKq (by decide))
  clear hp hk
  refine ⟨_, rfl, ?_⟩
  refine wl_nil ?_
  try simp only [sP, Act.put, lA, lB, lC]
  obtain ⟨c2, f2⟩ := HP.out.deep
  obtain ⟨hu, hk⟩ := HP.out.down0
  have HK2 := Hi_ (hk.blk HK.out hKq (by decide))
  have HX2 := Hi_ (Kp.bel HX.out hk)
  have HKp2 := Hi_ (HKp.out.tr hk)
  have HP2 := Hi_ hu
  clear hu hk
  have c2' : Wn9.cell? ⟨q, 2, none⟩ = some (.int .i64 1) := c2
  clear c2
  go_upto_region 10 with fail
  clear c2' f2 HP HX HKp HK
  generalize Wn9.setCell ⟨q, 2, none⟩ (.int .i64 0) = Wd at *
  obtain ⟨HX, HKp, HP, HK⟩ : Hid (Bel w0 Wd) ∧ Hid (Kp w0.heap.size q w Wd) ∧ Hid (PrS w0.heap.size q 0 _ Wd) ∧ Hid (Blk Wd K 51 #[.int .i64 xa, .string xn, .slice Ap x.params.length cp, .slice Av x.vars.length cv, .slice Ac x.cmds.length cc, .int .i64 rk, .int .i64 ra, .int .i64 rn, .string rs, .slice Ar x.result.args.length cr]) := ⟨HX2, HKp2, HP2, HK2⟩
  clear HX2 HKp2 HP2 HK2
  refine wl_region ?_
  try dsimp only [List.append]
  refine wl_k (some 48) (.pointer (some ⟨q, 0, none⟩)) ?_
  refine wl_to (some 49) (.slice (some ⟨Wd.heap.size, 0, none⟩) 1 1) _ rfl (by kernel_rfl) (run_bsS 1 _ [.string (⟨#[125]⟩ : ByteArray)] rfl (by decide) (by decide) (by kernel_rfl)) ?_
  have HG := Hi_ (Blk.new Wd 9 (List.toArray [.string (⟨#[125]⟩ : ByteArray)]))
  replace HKp := Hi_ (HKp.out.tr (Kp.of ((Bel.rfl_ Wd).al (.cells (List.toArray [.string (⟨#[125]⟩ : ByteArray)]) 9)) HX.out.size))
  replace HX := Hi_ (HX.out.tr ((Bel.rfl_ Wd).al (.cells (List.toArray [.string (⟨#[125]⟩ : ByteArray)]) 9)))
  replace HP := Hi_ (HP.out.keep ((Bel.rfl_ Wd).al (.cells (List.toArray [.string (⟨#[125]⟩ : ByteArray)]) 9)))
  replace HK := Hi_ (HK.out.keep ((Bel.rfl_ Wd).al (.cells (List.toArray [.string (⟨#[125]⟩ : ByteArray)]) 9)))
  generalize Wd.alloc (.cells (List.toArray [.string (⟨#[125]⟩ : ByteArray)]) 9) = Wn10 at *
  generalize Wd.heap.size = gWn10 at *
  refine wl_cl (some 50) 76 #[.pointer (some ⟨q, 0, none⟩), .slice (some ⟨gWn10, 0, none⟩) 1 1] (line_s [(⟨#[125]⟩ : ByteArray)] gWn10 HP.out HX.out HG.out (by decide) (by simp only [lineB, catB, ByteArray.size_append]; have e0 : (⟨#[102, 117, 110, 99, 32]⟩ : ByteArray).size = 5 := rfl; have e1 : (⟨#[10]⟩ : ByteArray).size = 1 := rfl; have e2 : (⟨#[114, 101, 116, 117, 114, 110, 32]⟩ : ByteArray).size = 7 := rfl; have e3 : (⟨#[40]⟩ : ByteArray).size = 1 := rfl; have e4 : (⟨#[41, 32, 123]⟩ : ByteArray).size = 3 := rfl; have e5 : (⟨#[59]⟩ : ByteArray).size = 1 := rfl; have e9 : emp.size = 0 := rfl; omega) (by simp only [catB, ByteArray.size_append]; have e0 : (⟨#[125]⟩ : ByteArray).size = 1 := rfl; have e9 : emp.size = 0 := rfl; omega) (by simp)) ?_
  rintro r Wn11 ⟨rfl, hp, hk⟩
  replace HX := Hi_ (Kp.bel HX.out hk)
  replace HKp := Hi_ (HKp.out.tr hk)
  replace HP := Hi_ hp
  replace HK := Hi_ (hk.blk HK.out hKq (by decide))
  clear hp hk
  refine ⟨_, rfl, ?_⟩
  refine wl_nil ?_
  try simp only [Act.put, lA, lB, lC]
  go_wp2
  go_end0
  have hF := HP.out
  rw [lineFunc, lineRet, lineEnd] at hF
  refine ⟨rfl, ?_, HKp.out⟩
  rw [HTX.out]
  simp only [ByteArray.append_assoc, indB_zero] at hF ⊢
  exact hF
end Go.Proofs.YtmfjlcpjemccmaaGreatDoor
