/- Plain words on the texts of commands: what the loops need. Are two expressions the same, by the program: walked. Does a list hold an expression of which a function says yes: walked. Each lemma states its own conditions. -/
import Derived.Test.YtmfjlcpjemccmaaGreatDoorTts07
import Derived.Lib.ItoaNum
import Derived.Lib.AppendIntMem
import Derived.WalkSmall
import Derived.Laws.BytesArg
import Derived.Laws.Concat
import Derived.Test.YtmfjlcpjemccmaaGreatDoorTts06
import Derived.Test.YtmfjlcpjemccmaaGreatDoorTts35
import Derived.Test.YtmfjlcpjemccmaaGreatDoorTts17
import Derived.Test.YtmfjlcpjemccmaaGreatDoorTts18
import Derived.Test.YtmfjlcpjemccmaaGreatDoorTts37
namespace Go.Proofs.YtmfjlcpjemccmaaGreatDoor
open Go.RowKit
theorem Sl.max {α : Type} {r : Rep α} {w : World} {v : Value} {xs : List α} (h : Sl r w v xs) : xs.length ≤ maxLen := by
 obtain ⟨A, c, rfl, hc, hm, -⟩ := h
 exact Nat.le_trans hc hm.1
theorem TER.tev {w : World} {e : TE} {cs : List Value} (h : TER w e cs) : TEV w e (.agg cs.toArray) := by
 obtain ⟨k, a, n, s, args⟩ := e
 obtain ⟨v, rfl, h1, h2⟩ := h.opened
 exact ⟨v, rfl, h1, h2⟩
theorem blk_all {w : World} {g : Nat} {t : TypeId} {cs : List Value} (h : Blk w g t cs.toArray) : CellsAt w g 0 cs := fun j u hu => by
 rw [Nat.zero_add]
 exact h.cell (by simpa using hu)
theorem alloc_size (w : World) (o : Obj) : (w.alloc o).heap.size = w.heap.size + 1 := by simp
theorem any_drop {α : Type} {p : α → Bool} {l : List α} {k : Nat} {x : α} (hx : l[k]? = some x) : (l.drop k).any p = (p x || (l.drop (k + 1)).any p) := by
 obtain ⟨hl, rfl⟩ := List.getElem?_eq_some_iff.1 hx
 rw [List.drop_eq_getElem_cons hl, List.any_cons]
set_option maxRecDepth 20000 in
set_option maxHeartbeats 4000000 in
theorem index_great (p : TE → Bool) (l : List TE) (v : Value) (w : World) (h : Sl teR w v l)
  (IH : ∀ x ∈ l, ∀ (cs : List Value) (W : World), teR.R W cs x → Calls Tryz.prog 98 #[.agg cs.toArray] W fun r w' => r = .returned (.bool (p x)) ∧ Bel W w') :
  Calls Tryz.prog 188 #[v, .func (.func 98) #[] #[]] w fun r w' => ∃ k : Int, r = .returned (.int .i64 k) ∧ decide (0 ≤ k) = l.any p ∧ Bel w w' := by
 have HSL := Hi_ h
 have HI := Hi_ IH
 have HT : Hid ((l.drop 0).any p = l.any p) := Hi_ rfl
 generalize l.any p = T at *
 obtain ⟨A, c, rfl, hc, hm, -⟩ := h
 have hll : l.length ≤ 9223372036854775807 := by have := hm.1; simp only [maxLen] at this; omega
 have HRF := Hi_ (Bel.rfl_ w)
 clear hm hc IH
 go_enter Tryz.func188, Tryz.ntmps188
 go_wp2
 go_loopw [8] (fun i wr => ∃ j : Nat, i = .int .i64 j ∧ j ≤ l.length ∧ Hid ((l.drop j).any p = T) ∧ Hid (Bel w wr)) (fun i _ => l.length - (intOf i).toNat)
 case atStart => exact ⟨0, rfl, Nat.zero_le _, HT, HRF⟩
 case round =>
  obtain ⟨j, rfl, hj, HS, HB⟩ := hrel
  obtain ⟨WO, hWO⟩ : ∃ W, W = wr := ⟨_, rfl⟩
  subst hWO
  clear HT HRF
  by_cases hlt : j < l.length
  rotate_left
  ·have hdd : decide ((j : Int) < l.length) = false := decide_eq_false (by omega)
   have HR : Hid (false = T) := Hi_ (by rw [← HS.out, List.drop_eq_nil_of_le (by omega)]; rfl)
   go_wp2
   go_ret
   exact ⟨-1, rfl, by rw [← HR.out]; rfl, HB.out⟩
  have hdd : decide ((j : Int) < l.length) = true := decide_eq_true (by omega)
  obtain ⟨x, hx⟩ : ∃ x, l[j]? = some x := ⟨_, List.getElem?_eq_getElem hlt⟩
  obtain ⟨b, o, rfl, hA⟩ := (HSL.out.keep HB.out).lies (by omega)
  obtain ⟨cs, hcs, hca⟩ := hA j x hx
  have HIX := Hi_ (fun W (hb : Bel WO W) => HI.out x (List.mem_of_getElem? hx) cs W (teR.keep hb hcs))
  have HD : Hid ((p x || (l.drop (j + 1)).any p) = T) := Hi_ (by rw [← any_drop hx]; exact HS.out)
  have i0 : (0 : Int) ≤ j := by omega
  have i1 : (j : Int) < l.length := by omega
  have HL := Hi_ (teR.len hcs)
  have HCA : Hid (CellsAt WO b (o + j * 5) cs) := Hi_ hca
  clear hcs hca hx HS HI hA
  go_upto_region 4 with fail
  refine wl_region ?_
  try dsimp only [List.append]
  refine wl_k (some 11) (.func (.func 98) #[] #[]) ?_
  refine wl_k (some 12) (.slice (some ⟨b, o, none⟩) l.length c) ?_
  refine wl_k (some 13) (.int .i64 j) ?_
  refine wl_e (some 14) (.pointer (some ⟨b, o + j * 5, none⟩)) (by go_simp) ?_
  refine wl_e (some 15) (.agg cs.toArray) (run_loadRow 49 (.tmp 14) rfl elTE b (o + j * 5) (by kernel_rfl) cs HCA.out HL.out (by kernel_rfl)) ?_
  refine wl_cl (some 16) 98 #[.agg cs.toArray] (HIX.out _ (Bel.rfl_ _)) ?_
  rintro r W3 ⟨rfl, hb⟩
  replace HB := Hi_ (HB.out.tr hb)
  clear hb
  refine ⟨_, rfl, ?_⟩
  generalize p x = sm at *
  refine wl_nil ?_
  try simp only [Act.put, lA, lB, lC]
  cases sm with
  | false =>
   have HD2 : Hid ((l.drop (j + 1)).any p = T) := Hi_ (by rw [← HD.out, Bool.false_or])
   go_wp2
   go_roundw
   case rel => exact ⟨j + 1, by go_num, by omega, HD2, HB⟩
   case measure => simp [intOf]; omega
  | true =>
   have HD2 : Hid (true = T) := Hi_ (by rw [← HD.out, Bool.true_or])
   go_wp2
   go_ret
   exact ⟨j, rfl, by rw [← HD2.out]; exact decide_eq_true i0, HB.out⟩
theorem contains_great (p : TE → Bool) (l : List TE) (v : Value) (w : World) (h : Sl teR w v l)
  (IH : ∀ x ∈ l, ∀ (cs : List Value) (W : World), teR.R W cs x → Calls Tryz.prog 98 #[.agg cs.toArray] W fun r w' => r = .returned (.bool (p x)) ∧ Bel W w') :
  Calls Tryz.prog 149 #[v, .func (.func 98) #[] #[]] w fun r w' => r = .returned (.bool (l.any p)) ∧ Bel w w' := by
 have HC := Hi_ (index_great p l v w h IH)
 obtain ⟨A, c, rfl, -⟩ := h
 generalize l.any p = T at *
 clear IH
 go_enter Tryz.func149, Tryz.ntmps149
 go_wp2_with fail
 refine HC.out.mono ?_
 rintro r w1 ⟨k, rfl, hk, hb⟩
 have hk2 : decide (0 ≤ k) = T := hk
 have HB := Hi_ hb
 clear hb HC hk
 cases T with
 | true =>
  go_wp2
  go_ret
  exact ⟨rfl, HB.out⟩
 | false =>
  go_wp2
  go_ret
  exact ⟨rfl, HB.out⟩
set_option maxRecDepth 20000 in
set_option maxHeartbeats 4000000 in
theorem index_expr (p : TE → Bool) (l : List TE) (v : Value) (w : World) (h : Sl teR w v l)
  (IH : ∀ x ∈ l, ∀ (cs : List Value) (W : World), teR.R W cs x → Calls Tryz.prog 190 #[.agg cs.toArray] W fun r w' => r = .returned (.bool (p x)) ∧ Bel W w') :
  Calls Tryz.prog 188 #[v, .func (.func 190) #[] #[]] w fun r w' => ∃ k : Int, r = .returned (.int .i64 k) ∧ decide (0 ≤ k) = l.any p ∧ Bel w w' := by
 have HSL := Hi_ h
 have HI := Hi_ IH
 have HT : Hid ((l.drop 0).any p = l.any p) := Hi_ rfl
 generalize l.any p = T at *
 obtain ⟨A, c, rfl, hc, hm, -⟩ := h
 have hll : l.length ≤ 9223372036854775807 := by have := hm.1; simp only [maxLen] at this; omega
 have HRF := Hi_ (Bel.rfl_ w)
 clear hm hc IH
 go_enter Tryz.func188, Tryz.ntmps188
 go_wp2
 go_loopw [8] (fun i wr => ∃ j : Nat, i = .int .i64 j ∧ j ≤ l.length ∧ Hid ((l.drop j).any p = T) ∧ Hid (Bel w wr)) (fun i _ => l.length - (intOf i).toNat)
 case atStart => exact ⟨0, rfl, Nat.zero_le _, HT, HRF⟩
 case round =>
  obtain ⟨j, rfl, hj, HS, HB⟩ := hrel
  obtain ⟨WO, hWO⟩ : ∃ W, W = wr := ⟨_, rfl⟩
  subst hWO
  clear HT HRF
  by_cases hlt : j < l.length
  rotate_left
  ·have hdd : decide ((j : Int) < l.length) = false := decide_eq_false (by omega)
   have HR : Hid (false = T) := Hi_ (by rw [← HS.out, List.drop_eq_nil_of_le (by omega)]; rfl)
   go_wp2
   go_ret
   exact ⟨-1, rfl, by rw [← HR.out]; rfl, HB.out⟩
  have hdd : decide ((j : Int) < l.length) = true := decide_eq_true (by omega)
  obtain ⟨x, hx⟩ : ∃ x, l[j]? = some x := ⟨_, List.getElem?_eq_getElem hlt⟩
  obtain ⟨b, o, rfl, hA⟩ := (HSL.out.keep HB.out).lies (by omega)
  obtain ⟨cs, hcs, hca⟩ := hA j x hx
  have HIX := Hi_ (fun W (hb : Bel WO W) => HI.out x (List.mem_of_getElem? hx) cs W (teR.keep hb hcs))
  have HD : Hid ((p x || (l.drop (j + 1)).any p) = T) := Hi_ (by rw [← any_drop hx]; exact HS.out)
  have i0 : (0 : Int) ≤ j := by omega
  have i1 : (j : Int) < l.length := by omega
  have HL := Hi_ (teR.len hcs)
  have HCA : Hid (CellsAt WO b (o + j * 5) cs) := Hi_ hca
  clear hcs hca hx HS HI hA
  go_upto_region 4 with fail
  refine wl_region ?_
  try dsimp only [List.append]
  refine wl_k (some 11) (.func (.func 190) #[] #[]) ?_
  refine wl_k (some 12) (.slice (some ⟨b, o, none⟩) l.length c) ?_
  refine wl_k (some 13) (.int .i64 j) ?_
  refine wl_e (some 14) (.pointer (some ⟨b, o + j * 5, none⟩)) (by go_simp) ?_
  refine wl_e (some 15) (.agg cs.toArray) (run_loadRow 49 (.tmp 14) rfl elTE b (o + j * 5) (by kernel_rfl) cs HCA.out HL.out (by kernel_rfl)) ?_
  refine wl_cl (some 16) 190 #[.agg cs.toArray] (HIX.out _ (Bel.rfl_ _)) ?_
  rintro r W3 ⟨rfl, hb⟩
  replace HB := Hi_ (HB.out.tr hb)
  clear hb
  refine ⟨_, rfl, ?_⟩
  generalize p x = sm at *
  refine wl_nil ?_
  try simp only [Act.put, lA, lB, lC]
  cases sm with
  | false =>
   have HD2 : Hid ((l.drop (j + 1)).any p = T) := Hi_ (by rw [← HD.out, Bool.false_or])
   go_wp2
   go_roundw
   case rel => exact ⟨j + 1, by go_num, by omega, HD2, HB⟩
   case measure => simp [intOf]; omega
  | true =>
   have HD2 : Hid (true = T) := Hi_ (by rw [← HD.out, Bool.true_or])
   go_wp2
   go_ret
   exact ⟨j, rfl, by rw [← HD2.out]; exact decide_eq_true i0, HB.out⟩
theorem contains_expr (p : TE → Bool) (l : List TE) (v : Value) (w : World) (h : Sl teR w v l)
  (IH : ∀ x ∈ l, ∀ (cs : List Value) (W : World), teR.R W cs x → Calls Tryz.prog 190 #[.agg cs.toArray] W fun r w' => r = .returned (.bool (p x)) ∧ Bel W w') :
  Calls Tryz.prog 149 #[v, .func (.func 190) #[] #[]] w fun r w' => r = .returned (.bool (l.any p)) ∧ Bel w w' := by
 have HC := Hi_ (index_expr p l v w h IH)
 obtain ⟨A, c, rfl, -⟩ := h
 generalize l.any p = T at *
 clear IH
 go_enter Tryz.func149, Tryz.ntmps149
 go_wp2_with fail
 refine HC.out.mono ?_
 rintro r w1 ⟨k, rfl, hk, hb⟩
 have hk2 : decide (0 ≤ k) = T := hk
 have HB := Hi_ hb
 clear hb HC hk
 cases T with
 | true =>
  go_wp2
  go_ret
  exact ⟨rfl, HB.out⟩
 | false =>
  go_wp2
  go_ret
  exact ⟨rfl, HB.out⟩
set_option maxRecDepth 20000 in
set_option maxHeartbeats 4000000 in
theorem index_cmdE (p : TE → Bool) (l : List TE) (v : Value) (w : World) (h : Sl teR w v l)
  (IH : ∀ x ∈ l, ∀ (cs : List Value) (W : World), teR.R W cs x → Calls Tryz.prog 193 #[.agg cs.toArray] W fun r w' => r = .returned (.bool (p x)) ∧ Bel W w') :
  Calls Tryz.prog 188 #[v, .func (.func 193) #[] #[]] w fun r w' => ∃ k : Int, r = .returned (.int .i64 k) ∧ decide (0 ≤ k) = l.any p ∧ Bel w w' := by
 have HSL := Hi_ h
 have HI := Hi_ IH
 have HT : Hid ((l.drop 0).any p = l.any p) := Hi_ rfl
 generalize l.any p = T at *
 obtain ⟨A, c, rfl, hc, hm, -⟩ := h
 have hll : l.length ≤ 9223372036854775807 := by have := hm.1; simp only [maxLen] at this; omega
 have HRF := Hi_ (Bel.rfl_ w)
 clear hm hc IH
 go_enter Tryz.func188, Tryz.ntmps188
 go_wp2
 go_loopw [8] (fun i wr => ∃ j : Nat, i = .int .i64 j ∧ j ≤ l.length ∧ Hid ((l.drop j).any p = T) ∧ Hid (Bel w wr)) (fun i _ => l.length - (intOf i).toNat)
 case atStart => exact ⟨0, rfl, Nat.zero_le _, HT, HRF⟩
 case round =>
  obtain ⟨j, rfl, hj, HS, HB⟩ := hrel
  obtain ⟨WO, hWO⟩ : ∃ W, W = wr := ⟨_, rfl⟩
  subst hWO
  clear HT HRF
  by_cases hlt : j < l.length
  rotate_left
  ·have hdd : decide ((j : Int) < l.length) = false := decide_eq_false (by omega)
   have HR : Hid (false = T) := Hi_ (by rw [← HS.out, List.drop_eq_nil_of_le (by omega)]; rfl)
   go_wp2
   go_ret
   exact ⟨-1, rfl, by rw [← HR.out]; rfl, HB.out⟩
  have hdd : decide ((j : Int) < l.length) = true := decide_eq_true (by omega)
  obtain ⟨x, hx⟩ : ∃ x, l[j]? = some x := ⟨_, List.getElem?_eq_getElem hlt⟩
  obtain ⟨b, o, rfl, hA⟩ := (HSL.out.keep HB.out).lies (by omega)
  obtain ⟨cs, hcs, hca⟩ := hA j x hx
  have HIX := Hi_ (fun W (hb : Bel WO W) => HI.out x (List.mem_of_getElem? hx) cs W (teR.keep hb hcs))
  have HD : Hid ((p x || (l.drop (j + 1)).any p) = T) := Hi_ (by rw [← any_drop hx]; exact HS.out)
  have i0 : (0 : Int) ≤ j := by omega
  have i1 : (j : Int) < l.length := by omega
  have HL := Hi_ (teR.len hcs)
  have HCA : Hid (CellsAt WO b (o + j * 5) cs) := Hi_ hca
  clear hcs hca hx HS HI hA
  go_upto_region 4 with fail
  refine wl_region ?_
  try dsimp only [List.append]
  refine wl_k (some 11) (.func (.func 193) #[] #[]) ?_
  refine wl_k (some 12) (.slice (some ⟨b, o, none⟩) l.length c) ?_
  refine wl_k (some 13) (.int .i64 j) ?_
  refine wl_e (some 14) (.pointer (some ⟨b, o + j * 5, none⟩)) (by go_simp) ?_
  refine wl_e (some 15) (.agg cs.toArray) (run_loadRow 49 (.tmp 14) rfl elTE b (o + j * 5) (by kernel_rfl) cs HCA.out HL.out (by kernel_rfl)) ?_
  refine wl_cl (some 16) 193 #[.agg cs.toArray] (HIX.out _ (Bel.rfl_ _)) ?_
  rintro r W3 ⟨rfl, hb⟩
  replace HB := Hi_ (HB.out.tr hb)
  clear hb
  refine ⟨_, rfl, ?_⟩
  generalize p x = sm at *
  refine wl_nil ?_
  try simp only [Act.put, lA, lB, lC]
  cases sm with
  | false =>
   have HD2 : Hid ((l.drop (j + 1)).any p = T) := Hi_ (by rw [← HD.out, Bool.false_or])
   go_wp2
   go_roundw
   case rel => exact ⟨j + 1, by go_num, by omega, HD2, HB⟩
   case measure => simp [intOf]; omega
  | true =>
   have HD2 : Hid (true = T) := Hi_ (by rw [← HD.out, Bool.true_or])
   go_wp2
   go_ret
   exact ⟨j, rfl, by rw [← HD2.out]; exact decide_eq_true i0, HB.out⟩
theorem contains_cmdE (p : TE → Bool) (l : List TE) (v : Value) (w : World) (h : Sl teR w v l)
  (IH : ∀ x ∈ l, ∀ (cs : List Value) (W : World), teR.R W cs x → Calls Tryz.prog 193 #[.agg cs.toArray] W fun r w' => r = .returned (.bool (p x)) ∧ Bel W w') :
  Calls Tryz.prog 149 #[v, .func (.func 193) #[] #[]] w fun r w' => r = .returned (.bool (l.any p)) ∧ Bel w w' := by
 have HC := Hi_ (index_cmdE p l v w h IH)
 obtain ⟨A, c, rfl, -⟩ := h
 generalize l.any p = T at *
 clear IH
 go_enter Tryz.func149, Tryz.ntmps149
 go_wp2_with fail
 refine HC.out.mono ?_
 rintro r w1 ⟨k, rfl, hk, hb⟩
 have hk2 : decide (0 ≤ k) = T := hk
 have HB := Hi_ hb
 clear hb HC hk
 cases T with
 | true =>
  go_wp2
  go_ret
  exact ⟨rfl, HB.out⟩
 | false =>
  go_wp2
  go_ret
  exact ⟨rfl, HB.out⟩
end Go.Proofs.YtmfjlcpjemccmaaGreatDoor
