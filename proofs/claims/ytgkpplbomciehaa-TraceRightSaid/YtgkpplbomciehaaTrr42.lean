/- Whether two lists of events, or of numbers, are one: the references' loops hand back just that. Each lemma states its own conditions. -/
import Derived.Test.YtgkpplbomciehaaTrr01
import Derived.Test.YtgkpplbomciehaaTrr41
import Derived.Outline
import Derived.Deep.QuietTactic
import Derived.BigQuiet
import Derived.Laws.StructEq
import Derived.WalkLawsBesides
import Derived.WalkSpells
namespace Go.Proofs.Ytgkpplbomciehaa
open Go.RowKit
theorem stoodEv : Try.prog.stoodInHeld 63 = false := by kernel_rfl
theorem eqgEv : Try.prog.eqGuardType Try.prog.depth 63 = false := by kernel_rfl
theorem ev_eq_iff (e f : Ev) : decide (e = f) = (e.kind == f.kind && (e.frame == f.frame && (e.at_ == f.at_ && (e.var == f.var && (e.index == f.index && e.value == f.value))))) := by
  cases e; cases f; rw [Bool.eq_iff_iff]; simp
theorem run_eq_ev (e f : Ev) (w : World) : (Op.equalIn 10000 63 e.val f.val).run Try.prog w = .ok (decide (e = f)) w := by
  rw [ev_eq_iff]
  unfold Ev.val
  rw [show (10000 : Nat) = 9999 + 1 from rfl, run_equalIn_agg _ _ _ _ _ (by simp [go_sem]) stoodEv]
  cases h0 : e.kind == f.kind
  · simp [go_sem, h0]
  cases h1 : e.frame == f.frame
  · simp [go_sem, h0, h1]
  cases h2 : e.at_ == f.at_
  · simp [go_sem, h0, h1, h2]
  cases h3 : e.var == f.var
  · simp [go_sem, h0, h1, h2, h3]
  cases h4 : e.index == f.index
  · simp [go_sem, h0, h1, h2, h3, h4]
  cases h5 : e.value == f.value
  · simp [go_sem, h0, h1, h2, h3, h4, h5]
  · simp [go_sem, h0, h1, h2, h3, h4, h5]
theorem neq_ev (e f : Ev) (w : World) : (binOp .neq 63 e.val f.val).run Try.prog w = .ok (.bool (!decide (e = f))) w := by
  have h := run_eq_ev e f w
  unfold Ev.val at *
  rw [run_neq_struct, h]
  rfl
theorem eqg_ev (op : BinOp) (e f : Ev) (x y : Operand) (w : World) : (eqGuard op 63 x y e.val f.val).run Try.prog w = .ok () w :=
  run_eqGuard_agg w _ _ _ _ _ _ eqgEv
theorem take_eq_succ {α : Type} {xs ys : List α} {k : Nat} {x y : α} (hx : xs[k]? = some x) (hy : ys[k]? = some y) (h : xs.take k = ys.take k) (e : x = y) : xs.take (k + 1) = ys.take (k + 1) := by
  rw [List.take_add_one, List.take_add_one, h, hx, hy, e]
theorem ne_of_get {α : Type} {xs ys : List α} {k : Nat} {x y : α} (hx : xs[k]? = some x) (hy : ys[k]? = some y) (e : x ≠ y) : xs ≠ ys := by
  rintro rfl
  rw [hx] at hy
  exact e (by injection hy)
/-- 'hindsightref.SameEvents' tells whether two lists of events are one. -/
theorem sameEvents_any (v u : Value) (xs ys : List Ev) (w : World) (hx : Sl evR w v xs) (hy : Sl evR w u ys) (hlx : ok64 xs.length) (_hly : ok64 ys.length) :
    Calls Try.prog 33 #[v, u] w fun r w' => r = .returned (.bool (decide (xs = ys))) ∧ Bel w w' := by
  obtain ⟨A, c, rfl, hc, hm, hA⟩ := hx
  obtain ⟨B, d, rfl, hd, hn, hB⟩ := hy
  unfold ok64 at hlx _hly
  have HA := Lib.hid hA; clear hA
  have HB := Lib.hid hB; clear hB
  by_cases hl : xs.length = ys.length
  · have hlen : ((xs.length : Int) != (ys.length : Int)) = false := by rw [hl]; simp
    have hle : xs.length ≤ ys.length := by omega
    have hge : ys.length ≤ xs.length := by omega
    have HL := Lib.hid hl; clear hl
    go_enter Try.func33, Try.ntmps33
    go_wp2
    go_loopw [5] (fun i wr => ∃ k : Nat, k ≤ xs.length ∧ i = .int .i64 k ∧ Hid (xs.take k = ys.take k) ∧ ∃ n, wr = w.drewN n) (fun i _ => xs.length - (intOf i).toNat)
    case atStart => exact ⟨0, by omega, rfl, rfl, 0, rfl⟩
    case round =>
      obtain ⟨k, hk, rfl, ht, n, rfl⟩ := hrel
      by_cases hlt : k < xs.length
      · have hlt' : k < ys.length := by omega
        obtain ⟨e, he⟩ : ∃ e, xs[k]? = some e := ⟨_, List.getElem?_eq_getElem hlt⟩
        obtain ⟨f, hf⟩ : ∃ e, ys[k]? = some e := ⟨_, List.getElem?_eq_getElem hlt'⟩
        obtain ⟨ab, ao, rfl, hA⟩ := HA.out (by omega)
        obtain ⟨bb, bo, rfl, hB⟩ := HB.out (by omega)
        obtain ⟨x0, x1, x2, x3, x4, x5⟩ := evR.cells hA he
        obtain ⟨y0, y1, y2, y3, y4, y5⟩ := evR.cells hB hf
        clear hA hB HA HB
        have HE := Lib.hid he; clear he
        have HF := Lib.hid hf; clear hf
        have ne := neq_ev e f
        have eg := eqg_ev .neq e f
        unfold Ev.val at ne eg
        by_cases hef : e = f
        · have hdec : decide (e = f) = true := by simpa using hef
          have HEF := Lib.hid hef; clear hef
          go_wp2
          go_quiet (fail)
          go_wp2
          go_roundw
          case rel => exact ⟨k + 1, by omega, by go_num, take_eq_succ HE.out HF.out ht.out HEF.out, _, rfl⟩
          case measure => simp [intOf]; omega
        · have hdec : decide (e = f) = false := by simpa using hef
          have HEF := Lib.hid hef; clear hef
          go_wp2
          go_quiet (fail)
          go_wp2
          go_ret
          refine ⟨ret_bool ?_, by repeat (first | exact Bel.rfl_ _ | apply Bel.drN)⟩
          have := ne_of_get HE.out HF.out HEF.out
          simp [this]
      · go_wp2
        go_ret
        refine ⟨ret_bool ?_, by repeat (first | exact Bel.rfl_ _ | apply Bel.drN)⟩
        have h1 := ht.out
        rw [List.take_of_length_le (by omega), List.take_of_length_le (by omega)] at h1
        simp [h1]
  · have hlen : ((xs.length : Int) != (ys.length : Int)) = true := by rw [bne_iff_ne]; omega
    have HL := Lib.hid hl; clear hl
    go_enter Try.func33, Try.ntmps33
    go_wp2
    go_ret
    refine ⟨ret_bool ?_, Bel.rfl_ w⟩
    have : xs ≠ ys := fun h => HL.out (by rw [h])
    simp [this]
/-- .. by the library -/
theorem equalEvents_any (v u : Value) (xs ys : List Ev) (w : World) (hx : Sl evR w v xs) (hy : Sl evR w u ys) (hlx : ok64 xs.length) (_hly : ok64 ys.length) :
    Calls Try.prog 125 #[v, u] w fun r w' => r = .returned (.bool (decide (xs = ys))) ∧ Bel w w' := by
  obtain ⟨A, c, rfl, hc, hm, hA⟩ := hx
  obtain ⟨B, d, rfl, hd, hn, hB⟩ := hy
  unfold ok64 at hlx _hly
  have HA := Lib.hid hA; clear hA
  have HB := Lib.hid hB; clear hB
  by_cases hl : xs.length = ys.length
  · have hlen : ((xs.length : Int) != (ys.length : Int)) = false := by rw [hl]; simp
    have hle : xs.length ≤ ys.length := by omega
    have hge : ys.length ≤ xs.length := by omega
    have HL := Lib.hid hl; clear hl
    go_enter Try.func125, Try.ntmps125
    go_wp2
    go_loopw [13] (fun i wr => ∃ k : Nat, k ≤ xs.length ∧ i = .int .i64 k ∧ Hid (xs.take k = ys.take k) ∧ ∃ n, wr = w.drewN n) (fun i _ => xs.length - (intOf i).toNat)
    case atStart => exact ⟨0, by omega, rfl, rfl, 0, rfl⟩
    case round =>
      obtain ⟨k, hk, rfl, ht, n, rfl⟩ := hrel
      by_cases hlt : k < xs.length
      · have hlt' : k < ys.length := by omega
        obtain ⟨e, he⟩ : ∃ e, xs[k]? = some e := ⟨_, List.getElem?_eq_getElem hlt⟩
        obtain ⟨f, hf⟩ : ∃ e, ys[k]? = some e := ⟨_, List.getElem?_eq_getElem hlt'⟩
        obtain ⟨ab, ao, rfl, hA⟩ := HA.out (by omega)
        obtain ⟨bb, bo, rfl, hB⟩ := HB.out (by omega)
        obtain ⟨x0, x1, x2, x3, x4, x5⟩ := evR.cells hA he
        obtain ⟨y0, y1, y2, y3, y4, y5⟩ := evR.cells hB hf
        clear hA hB HA HB
        have HE := Lib.hid he; clear he
        have HF := Lib.hid hf; clear hf
        have ne := neq_ev e f
        have eg := eqg_ev .neq e f
        unfold Ev.val at ne eg
        by_cases hef : e = f
        · have hdec : decide (e = f) = true := by simpa using hef
          have HEF := Lib.hid hef; clear hef
          go_wp2
          go_quiet (fail)
          go_wp2
          go_roundw
          case rel => exact ⟨k + 1, by omega, by go_num, take_eq_succ HE.out HF.out ht.out HEF.out, _, rfl⟩
          case measure => simp [intOf]; omega
        · have hdec : decide (e = f) = false := by simpa using hef
          have HEF := Lib.hid hef; clear hef
          go_wp2
          go_quiet (fail)
          go_wp2
          go_ret
          refine ⟨ret_bool ?_, by repeat (first | exact Bel.rfl_ _ | apply Bel.drN)⟩
          have := ne_of_get HE.out HF.out HEF.out
          simp [this]
      · go_wp2
        go_ret
        refine ⟨ret_bool ?_, by repeat (first | exact Bel.rfl_ _ | apply Bel.drN)⟩
        have h1 := ht.out
        rw [List.take_of_length_le (by omega), List.take_of_length_le (by omega)] at h1
        simp [h1]
  · have hlen : ((xs.length : Int) != (ys.length : Int)) = true := by rw [bne_iff_ne]; omega
    have HL := Lib.hid hl; clear hl
    go_enter Try.func125, Try.ntmps125
    go_wp2
    go_ret
    refine ⟨ret_bool ?_, Bel.rfl_ w⟩
    have : xs ≠ ys := fun h => HL.out (by rw [h])
    simp [this]
theorem Sl.own_ev {w : World} {base : Nat} {t : TypeId} {v : Value} {n : Nat} {xs : List Ev} (h : w.ownsRow base t 6 v n (xs.flatMap Ev.cells)) (hn : n = xs.length) : Sl evR w v xs :=
  Sl.own (r := evR) h hn fun k x hx => by
    show _ = x.cells
    show ((xs.flatMap Ev.cells).drop (k * 6)).take 6 = x.cells
    clear h hn
    induction xs generalizing k with
    | nil => simp at hx
    | cons y ys ih =>
      cases k with
      | zero =>
        obtain rfl : y = x := by simpa using hx
        simp [Ev.cells]
      | succ k =>
        rw [List.flatMap_cons, show (k + 1) * 6 = y.cells.length + k * 6 by simp [Ev.cells]; omega, List.drop_append]
        simp
        have := ih k (by simpa using hx)
        rw [show y.cells.drop (y.cells.length + k * 6) = [] from List.drop_eq_nil_of_le (by omega)]
        simpa using this
end Go.Proofs.Ytgkpplbomciehaa
