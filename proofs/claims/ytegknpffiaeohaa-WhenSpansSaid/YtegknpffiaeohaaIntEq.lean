/- Whether two lists of numbers are one: the reference's loop hands back just that. Each lemma states its own conditions. -/
import Derived.Test.YtegknpffiaeohaaBase
import Derived.Test.YtegknpffiaeohaaRows
import Derived.Outline
import Derived.Deep.QuietTactic
import Derived.BigQuiet
import Derived.WalkLawsBesides
import Derived.WalkSpells
namespace Go.Proofs.Ytegknpffiaeohaa
open Go.RowKit

theorem takes_eq_succ {α : Type} {xs ys : List α} {k : Nat} {x y : α} (hx : xs[k]? = some x) (hy : ys[k]? = some y) (h : xs.take k = ys.take k) (e : x = y) : xs.take (k + 1) = ys.take (k + 1) := by
  rw [List.take_add_one, List.take_add_one, h, hx, hy, e]
theorem ne_of_gets {α : Type} {xs ys : List α} {k : Nat} {x y : α} (hx : xs[k]? = some x) (hy : ys[k]? = some y) (e : x ≠ y) : xs ≠ ys := by
  rintro rfl
  rw [hx] at hy
  exact e (by injection hy)

/-- 'hindsightref.SameInts' tells whether two lists of numbers are one. -/
theorem sameInts_any (v u : Value) (xs ys : List Int) (w : World) (hx : Sl intR w v xs) (hy : Sl intR w u ys) (hlx : ok64 xs.length) (_hly : ok64 ys.length) :
    Calls Try.prog 22 #[v, u] w fun r w' => r = .returned (.bool (decide (xs = ys))) ∧ Bel w w' := by
  obtain ⟨A, c, rfl, hc, hm, hA⟩ := hx
  obtain ⟨B, d, rfl, hd, hn, hB⟩ := hy
  unfold ok64 at hlx _hly
  have HA := Lib.hid hA; clear hA
  have HB := Lib.hid hB; clear hB
  by_cases hl : xs.length = ys.length
  · have hlen : ((xs.length : Int) != (ys.length : Int)) = false := by rw [hl]; simp
    have hle : xs.length ≤ ys.length := by omega
    have hge : ys.length ≤ xs.length := by omega
    have HL := Lib.hid hl; clear hl
    go_enter Try.func22, Try.ntmps22
    go_wp2
    go_loopw [5] (fun i wr => ∃ k : Nat, k ≤ xs.length ∧ i = .int .i64 k ∧ Hid (xs.take k = ys.take k) ∧ ∃ n, wr = w.drewN n) (fun i _ => xs.length - (intOf i).toNat)
    case atStart => exact ⟨0, by omega, rfl, rfl, 0, rfl⟩
    case round =>
      obtain ⟨k, hk, rfl, ht, n, rfl⟩ := hrel
      by_cases hlt : k < xs.length
      · have hlt' : k < ys.length := by omega
        obtain ⟨e, he⟩ : ∃ e, xs[k]? = some e := ⟨_, List.getElem?_eq_getElem hlt⟩
        obtain ⟨f, hf⟩ : ∃ e, ys[k]? = some e := ⟨_, List.getElem?_eq_getElem hlt'⟩
        obtain ⟨ab, ao, rfl, hA⟩ := HA.out (by omega)
        obtain ⟨bb, bo, rfl, hB⟩ := HB.out (by omega)
        have x0 := intR.cell hA he
        have y0 := intR.cell hB hf
        clear hA hB HA HB
        have HE := Lib.hid he; clear he
        have HF := Lib.hid hf; clear hf
        by_cases hef : e = f
        · have hdec : (e != f) = false := by simpa using hef
          have HEF := Lib.hid hef; clear hef
          go_wp2
          go_quiet (fail)
          go_wp2
          go_roundw
          case rel => exact ⟨k + 1, by omega, by go_num, takes_eq_succ HE.out HF.out ht.out HEF.out, _, rfl⟩
          case measure => simp [intOf]; omega
        · have hdec : (e != f) = true := by simpa using hef
          have HEF := Lib.hid hef; clear hef
          go_wp2
          go_quiet (fail)
          go_wp2
          go_ret
          refine ⟨ret_bool ?_, by repeat (first | exact Bel.rfl_ _ | apply Bel.drN)⟩
          have := ne_of_gets HE.out HF.out HEF.out
          simp [this]
      · go_wp2
        go_ret
        refine ⟨ret_bool ?_, by repeat (first | exact Bel.rfl_ _ | apply Bel.drN)⟩
        have h1 := ht.out
        rw [List.take_of_length_le (by omega), List.take_of_length_le (by omega)] at h1
        simp [h1]
  · have hlen : ((xs.length : Int) != (ys.length : Int)) = true := by rw [bne_iff_ne]; omega
    have HL := Lib.hid hl; clear hl
    go_enter Try.func22, Try.ntmps22
    go_wp2
    go_ret
    refine ⟨ret_bool ?_, Bel.rfl_ w⟩
    have : xs ≠ ys := fun h => HL.out (by rw [h])
    simp [this]

end Go.Proofs.Ytegknpffiaeohaa
