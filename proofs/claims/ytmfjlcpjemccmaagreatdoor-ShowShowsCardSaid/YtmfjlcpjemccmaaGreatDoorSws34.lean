/- The printer of trees prints blocks: walked. The address of a list's element, as a law. Each lemma states its own conditions. -/
import Derived.Test.YtmfjlcpjemccmaaGreatDoorSws33
import Derived.Test.YtmfjlcpjemccmaaGreatDoorSws27
namespace Go.Proofs.YtmfjlcpjemccmaaGreatDoor
open Go.RowKit
/-- what a command prints -/
def CmdC (w0 : World) (x : TC) : Prop := ∀ (n q : Nat) (s : ByteArray) (cs : List Value) (w : World), TCR w0 x cs → Bel w0 w → PrS w0.heap.size q n s w → x.ok = true → (x.text (indB n)).size ≤ 100000 → s.size + (x.text (indB n)).size ≤ 1000000 →
 Calls Tryz.prog 136 #[.pointer (some ⟨q, 0, none⟩), .agg cs.toArray] w fun r w' => r = .returned (.tuple #[]) ∧ PrS w0.heap.size q n (s ++ x.text (indB n)) w' ∧ Kp w0.heap.size q w w'
theorem PrS.up {B q n : Nat} {s : ByteArray} {w : World} (h : PrS B q n s w) : PrS B q (n + 1) s (w.setCell ⟨q, 2, none⟩ (.int .i64 ((n : Int) + 1))) ∧ Kp B q w (w.setCell ⟨q, 2, none⟩ (.int .i64 ((n : Int) + 1))) := Pr.to_ h ((n : Int) + 1)
theorem PrS.down {B q n : Nat} {s : ByteArray} {w : World} (h : PrS B q (n + 1) s w) : PrS B q n s (w.setCell ⟨q, 2, none⟩ (.int .i64 n)) ∧ Kp B q w (w.setCell ⟨q, 2, none⟩ (.int .i64 n)) := Pr.to_ h n
theorem PrS.deep {B q n : Nat} {s : ByteArray} {w : World} (h : PrS B q n s w) : w.cell? ⟨q, 2, none⟩ = some (.int .i64 n) ∧ w.frozen? ⟨q, 2, none⟩ = false := Pr.deep h
set_option maxRecDepth 20000 in
set_option maxHeartbeats 4000000 in
theorem prBlock_step (w0 : World) (l : List TC) (IH : ∀ x ∈ l, CmdC w0 x) : BlockC w0 l := by
 intro n q s v w h hx hp hok hn hz1 hz2
 rw [← indB_succ] at hz1 hz2 ⊢
 have HSL := Lib.hid h
 have HI := Lib.hid IH
 have HOK := Lib.hid hok
 have HEND : Hid (s ++ textCs (l.drop 0) (indB (n + 1)) = s ++ textCs l (indB (n + 1))) := Lib.hid rfl
 have hz3 : (s ++ textCs l (indB (n + 1))).size ≤ 1000000 := by rw [ByteArray.size_append]; exact hz2
 have HZ1 := Lib.hid hz1
 obtain ⟨T, hT⟩ : ∃ T, s ++ textCs l (indB (n + 1)) = T := ⟨_, rfl⟩
 have HTT := Lib.hid hT
 have HSUB : Hid (∀ (j : Nat) (x : TC), l[j]? = some x → (x.text (indB (n + 1))).size ≤ (textCs l (indB (n + 1))).size) := Lib.hid (by
  clear h hx hp hok hz1 hz2 hz3 HSL HOK HEND HZ1 hT HTT HI IH
  induction l with
  | nil => intro j x hx; simp at hx
  | cons y ys ih =>
   intro j x hx
   rw [textCs, ByteArray.size_append]
   cases j with
   | zero =>
    obtain rfl : y = x := by simpa using hx
    omega
   | succ j =>
    have := ih j x (by simpa using hx)
    omega)
 obtain ⟨A, c, rfl, hc, hm, -⟩ := h
 have hll : l.length ≤ 9223372036854775807 := by have := hm.1; simp only [maxLen] at this; omega
 obtain ⟨c2, f2⟩ := hp.deep
 obtain ⟨hu, hk⟩ := hp.up
 have HP := Lib.hid hu
 have HKp := Lib.hid hk
 have HX := Lib.hid (Kp.bel hx hk)
 have HPEND : Hid (∀ w', PrS w0.heap.size q n T w' → PrS w0.heap.size q n (s ++ textCs l (indB (n + 1))) w') := Lib.hid fun w' h => by rw [hT]; exact h
 rw [hT] at HEND hz3
 clear hc hm hok hp hu hk hz1 hz2 IH hx hT HTT
 go_enter Tryz.func78, Tryz.ntmps78
 go_upto_region 1 with fail
 clear c2 f2
 generalize w.setCell ⟨q, 2, none⟩ (.int .i64 ((n : Int) + 1)) = W1 at *
 go_wp2
 go_loopw [15] (fun i wr => ∃ (j : Nat) (t : ByteArray), i = .int .i64 j ∧ j ≤ l.length ∧ Hid (t ++ textCs (l.drop j) (indB (n + 1)) = T) ∧ Hid (PrS w0.heap.size q (n + 1) t wr) ∧ Hid (Kp w0.heap.size q w wr) ∧ Hid (Bel w0 wr)) (fun i _ => l.length - (intOf i).toNat)
 case atStart => exact ⟨0, s, rfl, Nat.zero_le _, HEND, HP, HKp, HX⟩
 case round =>
  obtain ⟨j, t, rfl, hj, HS, HP, HKp, HX⟩ := hrel
  obtain ⟨WO, hWO⟩ : ∃ W, W = wr := ⟨_, rfl⟩
  subst hWO
  clear HEND
  by_cases hlt : j < l.length
  rotate_left
  ·have hdd : decide ((j : Int) < l.length) = false := decide_eq_false (by omega)
   have HR : Hid (t = T) := Lib.hid (by rw [← HS.out, textCs_end (by omega)]; exact ByteArray.append_empty.symm)
   obtain ⟨c2, f2⟩ := HP.out.deep
   obtain ⟨hd, hk⟩ := HP.out.down
   have HPD := Lib.hid hd
   have HKD := Lib.hid (HKp.out.tr hk)
   clear hd hk
   have c2' : WO.cell? ⟨q, 2, none⟩ = some (.int .i64 ((n : Int) + 1)) := c2
   clear c2
   go_wp2
   go_end0
   refine ⟨rfl, HPEND.out _ ?_, ?_⟩
   ·rw [← HR.out]
    simpa using HPD.out
   ·simpa using HKD.out
  have hdd : decide ((j : Int) < l.length) = true := decide_eq_true (by omega)
  obtain ⟨x, hx⟩ : ∃ x, l[j]? = some x := ⟨_, List.getElem?_eq_getElem hlt⟩
  obtain ⟨b, o, cs, rfl, hcs, hca⟩ := tcAt HSL.out hx
  have HS2 : Hid ((t ++ x.text (indB (n + 1))) ++ textCs (l.drop (j + 1)) (indB (n + 1)) = T) := Lib.hid (by rw [ByteArray.append_assoc, ← textCs_drop hx]; exact HS.out)
  have hz : t.size + (x.text (indB (n + 1))).size ≤ 1000000 := by
   have h1 := hz3
   rw [← HS2.out, ByteArray.size_append, ByteArray.size_append] at h1
   omega
  have HC := Lib.hid (fun W (h1 : Bel w0 W) (h2 : PrS w0.heap.size q (n + 1) t W) => HI.out x (List.mem_of_getElem? hx) (n + 1) q t cs W hcs h1 h2 (okCs_at HOK.out hx) (Nat.le_trans (HSUB.out j x hx) HZ1.out) hz)
  have i0 : (0 : Int) ≤ j := by omega
  have i1 : (j : Int) < l.length := by omega
  have HCS := Lib.hid hcs
  have HL := Lib.hid (tcR.len hcs)
  have HCA := Lib.hid (hca.keep HX.out)
  clear hcs hca hx HS HI HSUB
  go_upto_region 4 with (refine copyTC (.tmp 17) (.tmp 5) (.tmp 18) rfl rfl rfl rfl rfl rfl b (o + j * 17) (by exact rfl) cs HCA.out (HCS.out.keep HX.out) (by exact rfl) (by exact rfl) ?_)
  have HK := Lib.hid (Blk.new WO 53 cs.toArray)
  replace HKp := Lib.hid (HKp.out.tr (Kp.of ((Bel.rfl_ WO).al (.cells cs.toArray 53)) HX.out.size))
  replace HP := Lib.hid (HP.out.keep ((Bel.rfl_ WO).al (.cells cs.toArray 53)))
  replace HX := Lib.hid (HX.out.al (.cells cs.toArray 53))
  clear HCS HCA
  generalize hW1 : WO.alloc _ = W2 at *
  clear hW1
  generalize WO.heap.size = K at *
  refine wl_region ?_
  try dsimp only [List.append]
  refine wl_do (some 19) (.pointer (some ⟨q, 0, none⟩)) rfl (by kernel_rfl) (by kernel_rfl) ?_
  refine wl_do (some 20) (.agg cs.toArray) rfl (by kernel_rfl) (run_loadRow 53 (.tmp 5) rfl elTC K 0 (by kernel_rfl) cs (blk_all HK.out) HL.out (by kernel_rfl)) ?_
  refine wl_call (some 21) rfl (by kernel_rfl) 136 #[.pointer (some ⟨q, 0, none⟩), .agg cs.toArray] (by kernel_rfl) (HC.out _ HX.out HP.out) ?_
  rintro r W3 ⟨rfl, hp, hk⟩
  replace HX := Lib.hid (Kp.bel HX.out hk)
  replace HKp := Lib.hid (HKp.out.tr hk)
  replace HP := Lib.hid hp
  clear hp hk HK HC
  refine ⟨_, rfl, ?_⟩
  refine wl_nil ?_
  try simp only [Act.put, List.setIfInBounds_toArray, List.set_cons_zero, List.set_cons_succ]
  go_wp2
  go_roundw
  case rel => exact ⟨j + 1, _, by go_num, by omega, HS2, HP, HKp, HX⟩
  case measure => simp [intOf]; omega
theorem prCmd_all (w0 : World) (ht : Tab w0) (x : TC) : CmdC w0 x := by
 induction x using TC.ind with
 | h k a s t i e args thn els ih1 ih2 => exact fun n q s' cs w h hx hp hok hz1 hz2 => prCmd_step w0 ht (.mk k a s t i e args thn els) n q s' cs w h hx hp hok hz1 hz2 (prBlock_step w0 thn ih1) (prBlock_step w0 els ih2)
theorem prBlock_all (w0 : World) (ht : Tab w0) (l : List TC) : BlockC w0 l := prBlock_step w0 l fun x _ => prCmd_all w0 ht x
end Go.Proofs.YtmfjlcpjemccmaaGreatDoor
namespace Go.Proofs.YtmfjlcpjemccmaaGreatDoor
open Go.RowKit
section
variable {o : Oper} {ρ : Operand → Value} {W : World} {x y : Operand} {b f n c k : Nat}
theorem rl_idxV (ho : o.op = .indexAddr 45 x y) (hx : ρ x = .slice (some ⟨b, f, none⟩) n c) (hy : ρ y = .int .i64 k) (h1 : k < n) : (execOp ρ o).run Tryz.prog W = .ok (.value (.pointer (some ⟨b, f + k * 2, none⟩))) W := by
 have i0 : (0 : Int) ≤ k := by omega
 have i1 : (k : Int) < n := by omega
 simp [execOp, ho, hx, hy, go_sem]
 intro h
 exact absurd h (by omega)
end
end Go.Proofs.YtmfjlcpjemccmaaGreatDoor
