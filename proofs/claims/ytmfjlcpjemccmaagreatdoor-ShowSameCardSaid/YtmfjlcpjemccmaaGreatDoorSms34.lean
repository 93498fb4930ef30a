/- The printer of trees prints blocks: walked. The document's text of a tree: walked. Each lemma states its own conditions. -/
import Derived.Test.YtmfjlcpjemccmaaGreatDoorSms33
import Derived.Test.YtmfjlcpjemccmaaGreatDoorSms26
import Derived.Test.YtmfjlcpjemccmaaGreatDoorSms25
namespace Go.Proofs.YtmfjlcpjemccmaaGreatDoor
open Go.RowKit
/-- what a command prints -/
def CmdC (w0 : World) (x : TC) : Prop := ∀ (n q : Nat) (s : ByteArray) (cs : List Value) (w : World), TCR w0 x cs → Bel w0 w → PrS w0.heap.size q n s w → x.ok = true → (x.text (indB n)).size ≤ 100000 → s.size + (x.text (indB n)).size ≤ 1000000 →
 Calls Tryz.prog 136 #[.pointer (some ⟨q, 0, none⟩), .agg cs.toArray] w fun r w' => r = .returned (.tuple #[]) ∧ PrS w0.heap.size q n (s ++ x.text (indB n)) w' ∧ Kp w0.heap.size q w w'
theorem PrS.up {B q n : Nat} {s : ByteArray} {w : World} (h : PrS B q n s w) : PrS B q (n + 1) s (w.setCell ⟨q, 2, none⟩ (.int .i64 ((n : Int) + 1))) ∧ Kp B q w (w.setCell ⟨q, 2, none⟩ (.int .i64 ((n : Int) + 1))) := Pr.to_ h ((n : Int) + 1)
theorem PrS.down {B q n : Nat} {s : ByteArray} {w : World} (h : PrS B q (n + 1) s w) : PrS B q n s (w.setCell ⟨q, 2, none⟩ (.int .i64 n)) ∧ Kp B q w (w.setCell ⟨q, 2, none⟩ (.int .i64 n)) := Pr.to_ h n
theorem PrS.deep {B q n : Nat} {s : ByteArray} {w : World} (h : PrS B q n s w) : w.cell? ⟨q, 2, none⟩ = some (.int .i64 n) ∧ w.frozen? ⟨q, 2, none⟩ = false := Pr.deep h
set_option maxRecDepth 20000 in
set_option maxHeartbeats 4000000 in
theorem prBlock_step (w0 : World) (l : List TC) (IH : ∀ x ∈ l, CmdC w0 x) : BlockC w0 l := by
 intro n q s v w h hx hp hok hn hz1 hz2
 rw [← indB_succ] at hz1 hz2 ⊢
 have HSL := Hi_ h
 have HI := Hi_ IH
 have HOK := Hi_ hok
 have HEND : Hid (s ++ textCs (l.drop 0) (indB (n + 1)) = s ++ textCs l (indB (n + 1))) := Hi_ rfl
 have hz3 : (s ++ textCs l (indB (n + 1))).size ≤ 1000000 := by rw [ByteArray.size_append]; exact hz2
 have HZ1 := Hi_ hz1
 obtain ⟨T, hT⟩ : ∃ T, s ++ textCs l (indB (n + 1)) = T := ⟨_, rfl⟩
 have HTT := Hi_ hT
 have HSUB : Hid (∀ (j : Nat) (x : TC), l[j]? = some x → (x.text (indB (n + 1))).size ≤ (textCs l (indB (n + 1))).size) := Hi_ (by
  clear h hx hp hok hz1 hz2 hz3 HSL HOK HEND HZ1 hT HTT HI IH
  induction l with
  | nil => intro j x hx; simp at hx
  | cons y ys ih =>
   intro j x hx
   rw [textCs, ByteArray.size_append]
   cases j with
   | zero =>
    obtain rfl : y = x := by simpa using hx
    omega
   | succ j =>
    have := ih j x (by simpa using hx)
    omega)
 obtain ⟨A, c, rfl, hc, hm, -⟩ := h
 have hll : l.length ≤ 9223372036854775807 := by have := hm.1; simp only [maxLen] at this; omega
 obtain ⟨c2, f2⟩ := hp.deep
 obtain ⟨hu, hk⟩ := hp.up
 have HP := Hi_ hu
 have HKp := Hi_ hk
 have HX := Hi_ (Kp.bel hx hk)
 have HPEND : Hid (∀ w', PrS w0.heap.size q n T w' → PrS w0.heap.size q n (s ++ textCs l (indB (n + 1))) w') := Hi_ fun w' h => by rw [hT]; exact h
 rw [hT] at HEND hz3
 clear hc hm hok hp hu hk hz1 hz2 IH hx hT HTT
 go_enter Tryz.func78, Tryz.ntmps78
 go_upto_region 1 with fail
 clear c2 f2
 generalize w.setCell ⟨q, 2, none⟩ (.int .i64 ((n : Int) + 1)) = W1 at *
 go_wp2
 go_loopw [15] (fun i wr => ∃ (j : Nat) (t : ByteArray), i = .int .i64 j ∧ j ≤ l.length ∧ Hid (t ++ textCs (l.drop j) (indB (n + 1)) = T) ∧ Hid (PrS w0.heap.size q (n + 1) t wr) ∧ Hid (Kp w0.heap.size q w wr) ∧ Hid (Bel w0 wr)) (fun i _ => l.length - (intOf i).toNat)
 case atStart => exact ⟨0, s, rfl, Nat.zero_le _, HEND, HP, HKp, HX⟩
 case round =>
  obtain ⟨j, t, rfl, hj, HS, HP, HKp, HX⟩ := hrel
  obtain ⟨WO, hWO⟩ : ∃ W, W = wr := ⟨_, rfl⟩
  subst hWO
  clear HEND
  by_cases hlt : j < l.length
  rotate_left
  ·have hdd : decide ((j : Int) < l.length) = false := decide_eq_false (by omega)
   have HR : Hid (t = T) := Hi_ (by rw [← HS.out, textCs_end (by omega)]; exact ByteArray.append_empty.symm)
   obtain ⟨c2, f2⟩ := HP.out.deep
   obtain ⟨hd, hk⟩ := HP.out.down
   have HPD := Hi_ hd
   have HKD := Hi_ (HKp.out.tr hk)
   clear hd hk
   have c2' : WO.cell? ⟨q, 2, none⟩ = some (.int .i64 ((n : Int) + 1)) := c2
   clear c2
   go_wp2
   go_end0
   refine ⟨rfl, HPEND.out _ ?_, ?_⟩
   ·rw [← HR.out]
    simpa using HPD.out
   ·simpa using HKD.out
  have hdd : decide ((j : Int) < l.length) = true := decide_eq_true (by omega)
  obtain ⟨x, hx⟩ : ∃ x, l[j]? = some x := ⟨_, List.getElem?_eq_getElem hlt⟩
  obtain ⟨b, o, cs, rfl, hcs, hca⟩ := tcAt HSL.out hx
  have HS2 : Hid ((t ++ x.text (indB (n + 1))) ++ textCs (l.drop (j + 1)) (indB (n + 1)) = T) := Hi_ (by rw [ByteArray.append_assoc, ← textCs_drop hx]; exact HS.out)
  have hz : t.size + (x.text (indB (n + 1))).size ≤ 1000000 := by
   have h1 := hz3
   rw [← HS2.out, ByteArray.size_append, ByteArray.size_append] at h1
   omega
  have HC := Hi_ (fun W (h1 : Bel w0 W) (h2 : PrS w0.heap.size q (n + 1) t W) => HI.out x (List.mem_of_getElem? hx) (n + 1) q t cs W hcs h1 h2 (okCs_at HOK.out hx) (Nat.le_trans (HSUB.out j x hx) HZ1.out) hz)
  have i0 : (0 : Int) ≤ j := by omega
  have i1 : (j : Int) < l.length := by omega
  have HCS := Hi_ hcs
  have HL := Hi_ (tcR.len hcs)
  have HCA := Hi_ (hca.keep HX.out)
  clear hcs hca hx HS HI HSUB
  go_upto_region 4 with (refine copyTC (.tmp 17) (.tmp 5) (.tmp 18) rfl rfl rfl rfl rfl rfl b (o + j * 17) (by exact rfl) cs HCA.out (HCS.out.keep HX.out) (by exact rfl) (by exact rfl) ?_)
  have HK := Hi_ (Blk.new WO 53 cs.toArray)
  replace HKp := Hi_ (HKp.out.tr (Kp.of ((Bel.rfl_ WO).al (.cells cs.toArray 53)) HX.out.size))
  replace HP := Hi_ (HP.out.keep ((Bel.rfl_ WO).al (.cells cs.toArray 53)))
  replace HX := Hi_ (HX.out.al (.cells cs.toArray 53))
  clear HCS HCA
  generalize hW1 : WO.alloc _ = W2 at *
  clear hW1
  generalize WO.heap.size = K at *
  refine wl_region ?_
  try dsimp only [List.append]
  refine wl_k (some 19) (.pointer (some ⟨q, 0, none⟩)) ?_
  refine wl_e (some 20) (.agg cs.toArray) (run_loadRow 53 (.tmp 5) rfl elTC K 0 (by kernel_rfl) cs (blk_all HK.out) HL.out (by kernel_rfl)) ?_
  refine wl_cl (some 21) 136 #[.pointer (some ⟨q, 0, none⟩), .agg cs.toArray] (HC.out _ HX.out HP.out) ?_
  rintro r W3 ⟨rfl, hp, hk⟩
  replace HX := Hi_ (Kp.bel HX.out hk)
  replace HKp := Hi_ (HKp.out.tr hk)
  replace HP := Hi_ hp
  clear hp hk HK HC
  refine ⟨_, rfl, ?_⟩
  refine wl_nil ?_
  try simp only [Act.put, lA, lB, lC]
  go_wp2
  go_roundw
  case rel => exact ⟨j + 1, _, by go_num, by omega, HS2, HP, HKp, HX⟩
  case measure => simp [intOf]; omega
theorem prCmd_all (w0 : World) (ht : Tab w0) (x : TC) : CmdC w0 x := by
 induction x using TC.ind with
 | h k a s t i e args thn els ih1 ih2 => exact fun n q s' cs w h hx hp hok hz1 hz2 => prCmd_step w0 ht (.mk k a s t i e args thn els) n q s' cs w h hx hp hok hz1 hz2 (prBlock_step w0 thn ih1) (prBlock_step w0 els ih2)
theorem prBlock_all (w0 : World) (ht : Tab w0) (l : List TC) : BlockC w0 l := prBlock_step w0 l fun x _ => prCmd_all w0 ht x
theorem textFs_drop {l : List TF} {k : Nat} {x : TF} (hx : l[k]? = some x) : textFs (l.drop k) = x.text (decide (k + 1 = l.length)) ++ textFs (l.drop (k + 1)) := by
 obtain ⟨hl, rfl⟩ := List.getElem?_eq_some_iff.1 hx
 rw [List.drop_eq_getElem_cons hl, textFs, List.length_drop]
 congr 2
 exact decide_eq_decide.2 (by omega)
theorem textFs_end {l : List TF} {k : Nat} (h : l.length ≤ k) : textFs (l.drop k) = emp := by rw [List.drop_eq_nil_of_le h, textFs]
theorem okFs_at : ∀ {l : List TF} (_ : okFs l = true) {k : Nat} {x : TF} (_ : l[k]? = some x), x.ok (decide (k + 1 = l.length)) = true
 | [], _, k, x, hx => by simp at hx
 | [f], h, k, x, hx => by
  match k with
  | 0 =>
   obtain rfl : f = x := by simpa using hx
   exact h
  | k + 1 => simp at hx
 | f :: g :: l, h, k, x, hx => by
  rw [okFs, Bool.and_eq_true] at h
  match k with
  | 0 =>
   obtain rfl : f = x := by simpa using hx
   have : decide (0 + 1 = (f :: g :: l).length) = false := by simp
   rw [this]
   exact h.1
  | k + 1 =>
   have h2 := okFs_at h.2 (k := k) (x := x) (by simpa using hx)
   rw [List.length_cons]
   have : decide (k + 1 + 1 = (g :: l).length + 1) = decide (k + 1 = (g :: l).length) := decide_eq_decide.2 (by omega)
   rw [this]
   exact h2
theorem textVs_drop {l : List TV} {k : Nat} {x : TV} (hx : l[k]? = some x) : textVs (l.drop k) = x.text ++ textVs (l.drop (k + 1)) := by
 obtain ⟨hl, rfl⟩ := List.getElem?_eq_some_iff.1 hx
 rw [List.drop_eq_getElem_cons hl, textVs]
theorem textVs_end {l : List TV} {k : Nat} (h : l.length ≤ k) : textVs (l.drop k) = emp := by rw [List.drop_eq_nil_of_le h, textVs]
theorem TF.parts {x : TF} {m : Bool} (h : x.ok m = true) : (m = false → x.result.ok = true) ∧ (∀ v ∈ x.vars, v.ok = true) ∧ okCs x.cmds = true := by
 unfold TF.ok at h
 simp only [Bool.and_eq_true] at h
 refine ⟨fun hm => ?_, List.all_eq_true.1 h.1.2, by rw [okCs_all]; exact h.2⟩
 subst hm
 have := h.1.1.1
 rw [if_neg (by decide), Bool.and_eq_true] at this
 exact this.2
theorem TV.range {v : TV} (h : v.ok = true) : -9999999 ≤ v.size ∧ v.size ≤ 9999999 := by
 unfold TV.ok at h
 rw [Bool.and_eq_true] at h
 have := of_decide_eq_true h.2
 omega
end Go.Proofs.YtmfjlcpjemccmaaGreatDoor
