/- The iterator over the runs of what holds. Each lemma states its own conditions. -/
import Derived.Test.YtegknpffiaeohaaQryL
import Derived.RangeFuncNested
import Derived.RangeFuncBound
import Derived.RangeFuncCalls
import Derived.RangeFuncLeaves
import Derived.RangeFuncBox
import Derived.Shelf.Abstract
import Derived.Shelf.RegionOpen
import Derived.WalkKit
import Derived.OwnWalkIn
import Derived.TacticsInMore
import Derived.LoopNIn
import Derived.LoopIn
import Derived.Maps.AppendAt
namespace Go.Proofs.Ytegknpffiaeohaa
open Go.RowKit Go.Shelf

attribute [local go_sem] Oper.semAt_some

/-- what a round of a loop over runs keeps: what lay below, and the iterator's own variable -/
def KpR (n₀ Bs : Nat) (A B : World) : Prop := Below n₀ A B ∧ ∀ v, A.cell? ⟨Bs, 0, none⟩ = some v → B.cell? ⟨Bs, 0, none⟩ = some v

set_option maxRecDepth 100000 in
set_option maxHeartbeats 4000000 in
theorem runs1_in (n : Nat) (hn : 1 ≤ n) (ly Bs : Nat) (sv : Value) (l : List Bool) (hl : l.length ≤ 4000) (wA : World) (hsv : Sl boolR wA sv l) (J Jx : List (Nat × Nat) → World → Prop)
    (hY : ∀ (pre : List (Nat × Nat)) (x : Nat × Nat) W, J pre W → pre.length < (spansL l).length → x.1 ≤ 4000 → x.2 ≤ 4000 → YieldAt Fence.wide (n - 1) Try.prog ly #[.int .i64 x.1, .int .i64 x.2] W fun e W' =>
      (e = .returned (.bool true) ∧ J (pre ++ [x]) W' ∧ KpR wA.heap.size Bs W W') ∨ (e = .returned (.bool false) ∧ Jx (pre ++ [x]) W'))
    (W : World) (hB : Bel wA W) (hBs : W.cell? ⟨Bs, 0, none⟩ = some sv) (h0 : J [] W) :
    CallsIn Fence.wide n Try.prog 50 #[.func (.yield ly) #[] #[], .pointer (some ⟨Bs, 0, none⟩)] W fun e W' => (∃ v, e = .returned v) ∧
      ((∃ ys, ys = spansL l ∧ J ys W') ∨ (∃ pre, pre <+: spansL l ∧ Jx pre W')) := by
  have HSV := Lib.hid hsv
  obtain ⟨A, cc, rfl, hc, hm, hA⟩ := hsv
  have HA := Lib.hid hA; clear hA hc hm
  have HB0 := Lib.hid hB; clear hB
  have HJ0 := Lib.hid h0; clear h0
  refine callsIn_of_wp Try.func50 rfl trivial ?_ rfl
  simp only [Try.ntmps50, List.size_toArray, List.length_cons, List.length_nil, Nat.reduceAdd, Nat.reduceSub, Array.replicate_succ, Array.replicate_zero, List.push_toArray, List.append_toArray, List.nil_append, List.cons_append]
  gi_wp2
  gi_loopw [3, 4] (fun i f wr => ∃ (k : Nat) (c : List (Nat × Nat)), i = .int .i64 k ∧ k ≤ l.length + 1 ∧ Hid (spSt l k = (c, none)) ∧ Hid (J c wr) ∧ Hid (Bel wA wr) ∧ wr.cell? ⟨Bs, 0, none⟩ = some (.slice A l.length cc)) (fun i _ _ => l.length + 1 - (intOf i).toNat)
  case atStart => exact ⟨0, [], rfl, by omega, rfl, HJ0, HB0, hBs⟩
  case round =>
    obtain ⟨k, c, rfl, hk, HS, HJ, HB, hbox⟩ := hrel
    clear hBs HJ0 HB0
    by_cases hlt : k < l.length
    · obtain ⟨x, hx, ex⟩ := bg_get hlt
      obtain ⟨b, o, rfl, hA⟩ := HA.out (by omega)
      have z0 := HB.out.cell (boolR.cell hA hx)
      clear hx
      cases x with
      | false =>
        have HS' := Lib.hid (spSt_idle HS.out ex)
        clear hA ex
        gi_wp2
        go_roundw
        case rel => exact ⟨k + 1, c, by go_num, by omega, HS', HJ, HB, hbox⟩
        case measure => simp [intOf]; omega
      | true =>
        have hbk := ex
        have HAC := Lib.hid hA
        clear hA ex
        gi_wp2
        gi_loopw [3] (fun i wx => ∃ e : Nat, i = .int .i64 e ∧ k ≤ e ∧ e ≤ l.length ∧ Hid (∀ v, k ≤ v → v < e → bg l v = true) ∧ wx = wr) (fun i _ => l.length - (intOf i).toNat)
        case atStart => exact ⟨k, rfl, Nat.le_refl _, by omega, Lib.hid (fun v h1 h2 => by omega), rfl⟩
        case round =>
          obtain ⟨e, rfl, hke', hel, HV, rfl⟩ := hrel
          by_cases hle : e < l.length
          · obtain ⟨y, hy, ey⟩ := bg_get hle
            have z1 := HB.out.cell (boolR.cell HAC.out hy)
            clear hy
            cases y with
            | true =>
              have HV' : Hid (∀ v, k ≤ v → v < e + 1 → bg l v = true) := Lib.hid (fun v h1 h2 => by rcases Nat.lt_or_ge v e with h | h; exact HV.out v h1 h; rw [show v = e by omega]; exact ey)
              clear ey
              gi_wp2
              go_roundw
              case rel => exact ⟨e + 1, by go_num, by omega, by omega, HV', trivial⟩
              case measure => simp [intOf]; omega
            | false =>
              have NB := ey
              clear ey
              have hke : k < e := by rcases Nat.lt_or_ge k e with h | h; exact h; exfalso; rw [show e = k by omega] at NB; rw [hbk] at NB; cases NB
              have hov := spSt_over HS.out hke HV.out NB
              have hpl : c.length < (spansL l).length := by have := (spSt_pref hov (by omega)).length_le; simp at this; omega
              have HOV := Lib.hid hov
              obtain ⟨fn, tmps, assign, body, hy, hR⟩ := hY c (k, e) wr HJ.out hpl (by dsimp only; omega) (by dsimp only; omega)
              dsimp only at hy
              clear hov hpl NB hbk
              gi_wp2
              refine hR.mono ?_
              rintro e3 W3 (⟨rfl, hJ3, hk3⟩ | ⟨rfl, hJx3⟩)
              · gi_wp2
                go_roundw
                case rel => exact ⟨e + 1, c ++ [(k, e)], by go_num, by omega, HOV, hJ3, HB.out.trans hk3.1, hk3.2 _ hbox⟩
                case measure => simp [intOf]; omega
              · gi_wp2
                refine bodyPost_ret (results_none rfl _ _ _) rfl ?_
                exact ⟨⟨_, rfl⟩, .inr ⟨c ++ [(k, e)], spSt_pref HOV.out (by omega), hJx3⟩⟩
          · have NB : bg l e = false := bg_end (by omega)
            have hke : k < e := by rcases Nat.lt_or_ge k e with h | h; exact h; exfalso; rw [show e = k by omega] at NB; rw [hbk] at NB; cases NB
            have hov := spSt_over HS.out hke HV.out NB
            have hpl : c.length < (spansL l).length := by have := (spSt_pref hov (by omega)).length_le; simp at this; omega
            have HOV := Lib.hid hov
            obtain ⟨fn, tmps, assign, body, hy, hR⟩ := hY c (k, e) wr HJ.out hpl (by dsimp only; omega) (by dsimp only; omega)
            dsimp only at hy
            clear hov hpl NB hbk
            gi_wp2
            refine hR.mono ?_
            rintro e3 W3 (⟨rfl, hJ3, hk3⟩ | ⟨rfl, hJx3⟩)
            · gi_wp2
              go_roundw
              case rel => exact ⟨e + 1, c ++ [(k, e)], by go_num, by omega, HOV, hJ3, HB.out.trans hk3.1, hk3.2 _ hbox⟩
              case measure => simp [intOf]; omega
            · gi_wp2
              refine bodyPost_ret (results_none rfl _ _ _) rfl ?_
              exact ⟨⟨_, rfl⟩, .inr ⟨c ++ [(k, e)], spSt_pref HOV.out (by omega), hJx3⟩⟩
    · have HE : Hid (c = spansL l) := Lib.hid (by
        rcases Nat.eq_or_lt_of_le hk with e | e
        · have h1 := HS.out
          rw [e, spansL_end] at h1
          injection h1 with h1 _
          exact h1.symm
        · have h1 := HS.out
          rw [show k = l.length by omega] at h1
          unfold spansL spTo
          rw [h1]; simp)
      gi_wp2
      go_end0
      exact ⟨⟨_, rfl⟩, .inl ⟨_, HE.out, HJ.out⟩⟩

set_option maxHeartbeats 1000000 in
theorem runs_in (n : Nat) (A : Option Addr) (m c : Nat) (w : World) :
    CallsIn Fence.wide n Try.prog 30 #[.slice A m c] w fun e w' => e = .returned (.func (.func 50) #[] #[.pointer (some ⟨w.heap.size, 0, none⟩)]) ∧ w' = w.alloc (.cells #[.slice A m c] 48) := by
  refine callsIn_of_wp Try.func30 rfl trivial ?_ rfl
  simp only [Try.ntmps30, List.size_toArray, List.length_cons, List.length_nil, Nat.reduceAdd, Nat.reduceSub, Array.replicate_succ, Array.replicate_zero, List.push_toArray, List.append_toArray, List.nil_append, List.cons_append]
  gi_wp2
  go_ret
  exact ⟨rfl, rfl⟩

theorem runs_stops (n : Nat) (hn : 1 ≤ n) (Bs : Nat) (sv : Value) (l : List Bool) (hl : l.length ≤ 4000) (wA w : World) (hsv : Sl boolR wA sv l) (hAw : Bel wA w) (hBs : Bs < w.heap.size) (hc : w.cell? ⟨Bs, 0, none⟩ = some sv) :
    SeqStopsK Fence.wide n Try.prog 50 #[.pointer (some ⟨Bs, 0, none⟩)] (fun x : Nat × Nat => #[Value.int .i64 ((min x.1 4000 : Nat) : Int), .int .i64 ((min x.2 4000 : Nat) : Int)]) (KpR wA.heap.size Bs) (fun ys => ys = spansL l) (fun pre => pre <+: spansL l) (spansL l).length w := fun ly J Jx W hW _ _ hY h0 =>
  runs1_in n hn ly Bs sv l hl wA hsv J Jx (fun pre x W1 hJ hlt h1 h2 => by have := hY pre x W1 hJ hlt; dsimp only at this; rw [Nat.min_eq_left h1, Nat.min_eq_left h2] at this; exact this) W (hAw.tr hW) ((hW.cell (p := ⟨Bs, 0, none⟩) hBs).trans hc) h0
/-- none is greater than there are events -/
def clampL (c : List (Nat × Nat)) : List (Nat × Nat) := c.map fun x => (min x.1 4000, min x.2 4000)
theorem clampL_snoc (c : List (Nat × Nat)) (x : Nat × Nat) : clampL (c ++ [x]) = clampL c ++ [(min x.1 4000, min x.2 4000)] := by unfold clampL; rw [List.map_append]; rfl
theorem clampL_length (c : List (Nat × Nat)) : (clampL c).length = c.length := by simp [clampL]
theorem apart_clamp : ∀ {m n : Nat} {c : List (Nat × Nat)}, Apart m n c → n ≤ 4000 → clampL c = c
  | _, _, [], _, _ => rfl
  | m, n, x :: xs, ⟨_, b, c, d⟩, hn => by
    have := apart_clamp d hn
    unfold clampL at *
    rw [List.map_cons, this, Nat.min_eq_left (by omega), Nat.min_eq_left (by omega)]
theorem clampL_spans {l : List Bool} (hl : l.length ≤ 4000) : clampL (spansL l) = spansL l := apart_clamp (spans_apart l) hl
theorem apart_length : ∀ {m n : Nat} {c : List (Nat × Nat)}, Apart m n c → m + c.length ≤ max m n
  | _, _, [], _ => by simp; omega
  | m, n, x :: xs, ⟨a, b, c, d⟩ => by
    have := apart_length d
    simp only [List.length_cons]
    omega
theorem spans_length (l : List Bool) : (spansL l).length ≤ l.length := by have := apart_length (spans_apart l); omega
theorem segI_length (lo hi : Int) : (segI lo hi).length = (hi - lo).toNat := by simp [segI]
theorem segs_length (a b : Int) : ∀ c : List (Nat × Nat), (segs a b (clampL c)).length ≤ c.length * 4000
  | [] => by simp [segs, clampL]
  | x :: xs => by
    have := segs_length a b xs
    unfold segs clampL at *
    rw [List.map_cons, List.flatMap_cons, List.length_append, segI_length, List.length_cons]
    dsimp only
    omega
theorem kpR_t {n₀ Bs : Nat} {A B C : World} (h : KpR n₀ Bs A B) (k : KpR n₀ Bs B C) : KpR n₀ Bs A C := ⟨h.1.trans k.1, fun v hv => k.2 v (h.2 v hv)⟩
theorem kpR_b {n₀ Bs : Nat} {w : World} (hn : n₀ ≤ w.heap.size) (hB : Bs < w.heap.size) (W : World) (l : Nat) (o o' : Obj) (hl : w.heap.size ≤ l) (h : W.heap[l]? = some o) (h1 : o.isCells = false) (h2 : o.isWalk = false) : KpR n₀ Bs W (W.putObj l o') :=
  ⟨belowK_b hn W l o o' hl h h1 h2, fun _v hv => ((belowK_b (Nat.le_refl _) W l o o' hl h h1 h2).cell (p := ⟨Bs, 0, none⟩) hB).trans hv⟩
theorem kpR_r (n₀ Bs : Nat) (W : World) : KpR n₀ Bs W W := ⟨Below.refl _ _, fun _ h => h⟩

end Go.Proofs.Ytegknpffiaeohaa
