/- The program's Show: walked. Each lemma states its own conditions. -/
import Derived.Test.YtmfjlcpjemccmaaGreatDoorSms35
import Derived.Test.YtmfjlcpjemccmaaGreatDoorSms46
namespace Go.Proofs.YtmfjlcpjemccmaaGreatDoor
open Go.RowKit
theorem textVs_small : ∀ {l : List TV}, (∀ v ∈ l, v.ok = true) → (textVs l).size ≤ 29 * l.length
 | [], _ => Nat.zero_le _
 | v :: l, h => by
  have h1 := textVs_small (l := l) fun x hx => h x (by simp [hx])
  have hv := h v (by simp)
  have hr := TV.range hv
  have hd := digB_size hr
  unfold TV.ok at hv
  rw [Bool.and_eq_true] at hv
  have hn := isName_size hv.1
  rw [textVs, ByteArray.size_append, List.length_cons]
  have hs : v.text.size ≤ 29 := by
   unfold TV.text
   have e1 : vaB.size = 6 := rfl
   have e2 : endB.size = 2 := rfl
   have e3 : arB.size = 6 := rfl
   have e4 : spB.size = 1 := rfl
   split
   ·simp only [ByteArray.size_append]
    omega
   ·simp only [ByteArray.size_append]
    omega
  omega
theorem TF.text_small {f : TF} {m : Bool} (hok : f.ok m = true) (hb : f.big = false) (hf : fineL f.cmds 1 = true) : (f.text m).size ≤ 500 + 800 * cntL f.cmds := by
 obtain ⟨q1, q2, q3⟩ := TF.parts hok
 unfold TF.big at hb
 rw [Bool.or_eq_false_iff, Bool.or_eq_false_iff] at hb
 obtain ⟨⟨b1, b2⟩, b3⟩ := hb
 replace b1 := of_decide_eq_false b1
 replace b2 := of_decide_eq_false b2
 have h1 := textVs_small q2
 have e0 : twoB.size = 2 := rfl
 have h2 := textCs_size' (d := 1) (ind := twoB) q3 hf (by omega)
 unfold TF.text
 unfold TF.ok at hok
 simp only [Bool.and_eq_true] at hok
 have hp : (comsB f.params).size ≤ f.params.length * (12 + 2) := comsB_size fun x hx => isName_size (List.all_eq_true.1 hok.1.1.2 x hx)
 have e1 : maiB.size = 7 := rfl
 have e2 : funB.size = 5 := rfl
 have e3 : lparB.size = 1 := rfl
 have e4 : hedB.size = 4 := rfl
 have e5 : retB.size = 9 := rfl
 have e6 : endB.size = 2 := rfl
 have e7 : cloB.size = 2 := rfl
 have e8 : emp.size = 0 := rfl
 cases m with
 | true =>
  rw [if_pos rfl, if_pos rfl]
  simp only [ByteArray.size_append]
  omega
 | false =>
  have h3 := hok.1.1.1
  rw [if_neg (by decide), Bool.and_eq_true] at h3
  have h4 := isName_size h3.1
  have h5 := TE.text_size _ (q1 rfl)
  have h6 := great_cnt b3
  rw [if_neg (by decide), if_neg (by decide)]
  simp only [ByteArray.size_append]
  omega
theorem textFs_small : ∀ {l : List TF}, okFs l = true → (∀ f ∈ l, f.big = false ∧ fineL f.cmds 1 = true) → (textFs l).size ≤ 500 * l.length + 800 * (l.map fun f => cntL f.cmds).sum
 | [], _, _ => Nat.zero_le _
 | [f], h, hb => by
  have h1 := hb f (by simp)
  have h2 := TF.text_small h h1.1 h1.2
  rw [textFs, textFs, ByteArray.size_append, show decide (([] : List TF).length = 0) = true from rfl]
  have e : emp.size = 0 := rfl
  simp only [List.length_nil, List.length_cons, List.map_cons, List.map_nil, List.sum_cons, List.sum_nil]
  omega
 | f :: g :: l, h, hb => by
  rw [okFs, Bool.and_eq_true] at h
  have h1 := hb f (by simp)
  have h2 := TF.text_small h.1 h1.1 h1.2
  have h3 := textFs_small h.2 fun x hx => hb x (by simp [hx])
  rw [textFs, ByteArray.size_append, show decide ((g :: l).length = 0) = false by simp]
  rw [List.length_cons, List.map_cons, List.sum_cons]
  omega
/-- what is right has no long text -/
theorem show_small {l : List TF} (h : errT l = 0) : okFs l = true ∧ (textFs l).size ≤ 50000 ∧ 0 < l.length := by
 unfold errT at h
 cases hm : many l with
 | true => rw [hm, if_pos rfl] at h; cases h
 | false =>
  rw [hm, if_neg (by decide)] at h
  by_cases h0 : l.length = 0
  ·rw [if_pos h0] at h; cases h
  ·rw [if_neg h0] at h
   cases hok : okFs l with
   | false => rw [hok, if_neg (by decide)] at h; cases h
   | true =>
    unfold many manyL at hm
    simp only [Bool.or_eq_false_iff, Bool.not_eq_false'] at hm
    obtain ⟨h6, ⟨hb, hf⟩, hs⟩ := hm
    replace h6 := of_decide_eq_false h6
    replace hs := of_decide_eq_false hs
    have h1 := textFs_small hok fun f hfm => ⟨by
     rw [List.any_eq_false] at hb
     have := hb f hfm
     simpa using this, List.all_eq_true.1 hf f hfm⟩
    exact ⟨rfl, by omega, by omega⟩
theorem textFs_some {l : List TF} (h : 0 < l.length) : (textFs l).size ≠ 0 := by
 cases l with
 | nil => simp at h
 | cons f l =>
  rw [textFs, ByteArray.size_append]
  unfold TF.text
  simp only [ByteArray.size_append]
  have e : cloB.size = 2 := rfl
  omega
theorem PrS.new {w0 W : World} (hb : Bel w0 W) : PrS w0.heap.size W.heap.size 0 emp (W.alloc (.cells #[.pointer none, .slice none 0 0, .int .i64 0] 71)) :=
 ⟨hb.size, .pointer none, .slice none 0 0, Or.inl rfl, heap_alloc_new W _, World.ownsRow_nil _ _ _ _⟩
/-- what Show answers -/
def showT (l : List TF) : ByteArray := if errT l = 0 then textFs l else emp
set_option maxRecDepth 20000 in
set_option maxHeartbeats 8000000 in
theorem show_any (l : List TF) (v : Value) (w : World) (h : Sl tfR w v l) (ht : Tab w) :
  Calls Tryz.prog 13 #[.agg #[v]] w fun r w' => r = .returned (.tuple #[.string (showT l), .int .i64 (errT l)]) ∧ Bel w w' := by
 have HSL := Hi_ h
 have HCK := Hi_ (fun W (hb : Bel w W) => check_any l v W (h.keep hb))
 have HFN := Hi_ (fun x m q s cs W h hx hp hok h1 h2 => prFn_any w ht x m q s cs W h hx hp hok h1 h2)
 have HSM := Hi_ (fun (h : errT l = 0) => show_small h)
 have HST : Hid (showT l = if errT l = 0 then textFs l else emp) := Hi_ rfl
 obtain ⟨A, c, rfl, hcl, hm, -⟩ := h
 have hll : l.length ≤ 9223372036854775807 := by have := hm.1; simp only [maxLen] at this; omega
 have HQ := Hi_ (Blk.new w 24 #[.slice A l.length c])
 have HB0 := Hi_ ((Bel.rfl_ w).al (.cells #[.slice A l.length c] 24))
 obtain ⟨e, he⟩ : ∃ e, errT l = e := ⟨_, rfl⟩
 rw [he] at HCK HSM HST ⊢
 clear hcl hm he ht
 generalize showT l = SH at *
 go_enter Tryz.func13, Tryz.ntmps13
 go_upto_region 1 with fail
 have hPw : w.heap.size < (w.alloc (.cells #[.slice A l.length c] 24)).heap.size := by simp
 generalize w.alloc (.cells #[.slice A l.length c] 24) = W0 at *
 have c0 := HQ.out.cell (i := 0) (v := .slice A l.length c) rfl
 go_wp2_with fail
 refine (HCK.out _ HB0.out).mono ?_
 rintro r w1 ⟨rfl, hb⟩
 replace HB0 := Hi_ (HB0.out.tr hb)
 replace HQ := Hi_ (HQ.out.keep hb)
 have hPw1 := hb.size
 clear hb c0
 by_cases h0 : e = 0
 rotate_left
 ·have d0 : (e != 0) = true := by simpa using h0
  have HR : Hid (SH = emp) := Hi_ (by rw [HST.out, if_neg h0])
  clear h0
  go_wp2
  go_ret2
  exact ⟨by rw [HR.out]; rfl, HB0.out⟩
 subst h0
 obtain ⟨hok, hsz, hlen⟩ := HSM.out rfl
 have HT : Hid (emp ++ textFs (l.drop 0) = SH) := Hi_ (by rw [HST.out, if_pos rfl, emp_app]; rfl)
 have hSH : SH.size ≤ 50000 := by rw [HST.out, if_pos rfl]; exact hsz
 have hSN : SH.size ≠ 0 := by rw [HST.out, if_pos rfl]; exact textFs_some hlen
 have HOK := Hi_ (fun (k : Nat) (x : TF) (hx : l[k]? = some x) => okFs_at hok hx)
 clear HST HSM hok hsz hlen HCK
 go_upto_region 5 with fail
 have HP := Hi_ (PrS.new HB0.out)
 have HX := Hi_ (HB0.out.al (.cells #[.pointer none, .slice none 0 0, .int .i64 0] 71))
 replace HQ := Hi_ (HQ.out.keep ((Bel.rfl_ w1).al (.cells #[.pointer none, .slice none 0 0, .int .i64 0] 71)))
 have hPq : w.heap.size ≠ w1.heap.size := by omega
 clear HB0 hPw hPw1
 generalize w1.alloc (.cells #[.pointer none, .slice none 0 0, .int .i64 0] 71) = W2 at *
 generalize w1.heap.size = q at *
 have c0 := HQ.out.cell (i := 0) (v := .slice A l.length c) rfl
 go_wp2
 clear c0
 go_loopw [18] (fun i wr => ∃ (j : Nat) (t : ByteArray), i = .int .i64 j ∧ j ≤ l.length ∧ Hid (t ++ textFs (l.drop j) = SH) ∧ Hid (PrS w.heap.size q 0 t wr) ∧ Hid (Bel w wr) ∧ Hid (Blk wr w.heap.size 24 #[.slice A l.length c])) (fun i _ => l.length - (intOf i).toNat)
 case atStart => exact ⟨0, emp, rfl, Nat.zero_le _, HT, HP, HX, HQ⟩
 case round =>
  obtain ⟨j, t, rfl, hj, HS, HP, HX, HQ⟩ := hrel
  obtain ⟨WO, hWO⟩ : ∃ W, W = wr := ⟨_, rfl⟩
  subst hWO
  clear HT
  by_cases hlt : j < l.length
  rotate_left
  ·have hdd : decide ((j : Int) < l.length) = false := decide_eq_false (by omega)
   have HR : Hid (t = SH) := Hi_ (by rw [← HS.out, textFs_end (by omega)]; exact ByteArray.append_empty.symm)
   have HRD := Hi_ (read_pr (s := t) HP.out (by rw [HR.out]; exact hSN))
   go_wp2_with fail
   refine HRD.out.mono ?_
   rintro r w3 ⟨rfl, hb⟩
   have HB3 : Hid (Bel w w3) := Hi_ (Below.trans HX.out hb)
   clear hb HRD
   go_wp2
   go_ret2
   exact ⟨by rw [← HR.out]; rfl, HB3.out⟩
  have hdd : decide ((j : Int) < l.length) = true := decide_eq_true (by omega)
  obtain ⟨x, hx⟩ : ∃ x, l[j]? = some x := ⟨_, List.getElem?_eq_getElem hlt⟩
  obtain ⟨b, o, cs, rfl, hcs, hca⟩ := tfAt HSL.out hx
  obtain ⟨m, hm⟩ : ∃ m, decide (j + 1 = l.length) = m := ⟨_, rfl⟩
  have HS2 : Hid ((t ++ x.text m) ++ textFs (l.drop (j + 1)) = SH) := Hi_ (by rw [← hm, ByteArray.append_assoc, ← textFs_drop hx]; exact HS.out)
  have hmd : ((j : Int) == l.length - 1) = m := by
   rw [← hm, Bool.eq_iff_iff]
   simp
   omega
  have hz : t.size + (x.text m).size ≤ 50000 := by
   have h1 := hSH
   rw [← HS2.out, ByteArray.size_append, ByteArray.size_append] at h1
   omega
  have hxo : x.ok m = true := by rw [← hm]; exact HOK.out j x hx
  have HF := Hi_ (fun W (h1 : Bel w W) (h2 : PrS w.heap.size q 0 t W) => HFN.out x m q t cs W hcs h1 h2 hxo (by omega) (by omega))
  have i0 : (0 : Int) ≤ j := by omega
  have i1 : (j : Int) < l.length := by omega
  have HL := Hi_ (tfR.len hcs)
  have HON := Hi_ (tfR_one hcs)
  have HCA := Hi_ (hca.keep HX.out)
  have hWq := Pr.lt HP.out
  clear hcs hca hx HS hm hxo HFN HOK
  have c0 := HQ.out.cell (i := 0) (v := .slice (some ⟨b, o, none⟩) l.length c) rfl
  go_upto_region 7 with fail
  clear c0
  refine wl_region ?_
  try dsimp only [List.append]
  refine wl_k (some 20) (.int .i64 j) ?_
  refine wl_e (some 21) (.pointer (some ⟨b, o + j * 10, none⟩)) (by go_simp) ?_
  refine wl_e (some 22) (.agg cs.toArray) (run_loadRow 51 (.tmp 21) rfl elTF b (o + j * 10) (by kernel_rfl) cs HCA.out HL.out (by kernel_rfl)) ?_
  refine wl_alloc (some 7) rfl 51 rfl rfl elTF fun z hzz => ?_
  refine wl_k (some 6) (.int .i64 j) ?_
  refine wl_store none rfl 51 (.tmp 7) (.tmp 22) rfl rfl elTF WO.heap.size cs (by kernel_rfl) (by kernel_rfl) (Blk.new WO 51 z) hzz HL.out HON.out ?_
  have hb : Bel WO ((WO.alloc (.cells z 51)).setRow WO.heap.size cs.toArray) := ((Bel.rfl_ WO).al _).row (Nat.le_refl _) _
  have HK := Hi_ ((Blk.new WO 51 z).row_same cs.toArray)
  replace HP := Hi_ (HP.out.keep hb)
  replace HX := Hi_ (HX.out.tr hb)
  replace HQ := Hi_ (HQ.out.keep hb)
  clear hb hzz
  generalize (WO.alloc (.cells z 51)).setRow WO.heap.size cs.toArray = W3 at *
  generalize WO.heap.size = K at *
  refine wl_nil ?_
  try simp only [Act.put, lA, lB, lC]
  go_upto_region 8 with fail
  refine wl_region ?_
  try dsimp only [List.append]
  refine wl_k (some 23) (.pointer (some ⟨q, 0, none⟩)) ?_
  refine wl_e (some 24) (.agg cs.toArray) (run_loadRow 51 (.tmp 7) rfl elTF K 0 (by kernel_rfl) cs (blk_all HK.out) HL.out (by kernel_rfl)) ?_
  refine wl_k (some 25) (.int .i64 j) ?_
  refine wl_k (some 26) (.pointer (some ⟨w.heap.size, 0, none⟩)) ?_
  refine wl_e (some 27) (.slice (some ⟨b, o, none⟩) l.length c) (rl_fs_ (HQ.out.cell (i := 0) rfl)) ?_
  refine wl_k (some 28) (.int .i64 l.length) ?_
  refine wl_e (some 29) (.int .i64 (l.length - 1)) (Eq.trans (b := .ok (.value (.int .i64 (IntKind.i64.wrap ((l.length : Int) - 1)))) _) (by kernel_rfl) (by rw [show IntKind.i64.wrap ((l.length : Int) - 1) = l.length - 1 by rw [IntKind.wrap_i64]; omega])) ?_
  refine wl_e (some 30) (.bool m) (rb_eqlI rfl (by kernel_rfl) (by kernel_rfl) hmd) ?_
  refine wl_cl (some 31) 34 #[.pointer (some ⟨q, 0, none⟩), .agg cs.toArray, .bool m] (HF.out _ HX.out HP.out) ?_
  rintro r W4 ⟨rfl, hp, hk⟩
  replace HX := Hi_ (Kp.bel HX.out hk)
  replace HQ := Hi_ (hk.blk HQ.out hPq (by decide))
  replace HP := Hi_ hp
  clear hp hk HK HF
  refine ⟨_, rfl, ?_⟩
  refine wl_nil ?_
  try simp only [Act.put, lA, lB, lC]
  go_wp2
  go_roundw
  case rel => exact ⟨j + 1, _, by go_num, by omega, HS2, HP, HX, HQ⟩
  case measure => simp [intOf]; omega
end Go.Proofs.YtmfjlcpjemccmaaGreatDoor
