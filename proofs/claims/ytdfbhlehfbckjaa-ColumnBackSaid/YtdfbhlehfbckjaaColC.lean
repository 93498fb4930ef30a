/- Naturals told as bytes. Each lemma states its own conditions. -/
import Derived.Test.YtdfbhlehfbckjaaColB
import Derived.Test.YtdfbhlehfbckjaaOwn
import Derived.Laws.BytesArg
import Derived.Laws.Concat
namespace Go.Proofs.Ytdfbhlehfbckjaa
open Go.RowKit

def natB (n : Nat) : List Int := if n < 128 then [(n : Int)] else ((n % 128 + 128 : Nat) : Int) :: natB (n / 128)
termination_by n
theorem natB_lo {n : Nat} (h : n < 128) : natB n = [(n : Int)] := by rw [natB, if_pos h]
theorem natB_hi {n : Nat} (h : ¬ n < 128) : natB n = ((n % 128 + 128 : Nat) : Int) :: natB (n / 128) := by rw [natB, if_neg h]
theorem natB_len : ∀ (k n : Nat), n < 128 ^ k → 0 < k → (natB n).length ≤ k
  | 0, _, _, h => absurd h (by omega)
  | k + 1, n, h, _ => by
    rw [natB]
    split
    · simp
    · rename_i h1
      have h2 : n / 128 < 128 ^ k := by rw [Nat.div_lt_iff_lt_mul (by omega)]; rw [Nat.pow_succ] at h; exact h
      have hk : 0 < k := by
        rcases Nat.eq_zero_or_pos k with rfl | hk
        · simp at h; omega
        · exact hk
      have := natB_len k (n / 128) h2 hk
      simp only [List.length_cons]; omega

theorem str_app (xs ys : List Int) : strOfNums xs ++ strOfNums ys = strOfNums (xs ++ ys) := by
  unfold strOfNums
  rw [ByteArray.mk_append_mk, List.map_append]
theorem str_nil : (⟨#[]⟩ : ByteArray) = strOfNums [] := rfl

theorem conv1 (w : World) (x : Int) : (convert 63 9 (.slice (some ⟨w.heap.size, 0, none⟩) 1 1)).run Try.prog (w.alloc (.cells #[.int .u8 x] 5)) = .ok (.string (strOfNums [x])) (w.alloc (.cells #[.int .u8 x] 5)) := by
  refine run_convert_bytes_arg (P := Try.prog) _ 63 5 Try.underlying63 Try.underlying5 _ 0 1 1 [x] rfl ?_ _ Try.underlying9
  intro i hi
  obtain rfl : i = 0 := by omega
  rw [cell_of_row _ w.heap.size 0 #[.int .u8 x] 5 (0, 0) (heap_alloc_new w _)]
  rfl

theorem natural_ref (n : Nat) (hn : n < 4611686018427387904) (w : World) : Calls Try.prog 39 #[.int .i64 n] w fun r w' => r = .returned (.string (strOfNums (natB n))) ∧ Bel w w' := by
  have hC := conv1
  have hS := strOfNums_size
  have HN := Lib.hid (natB_len 9 n (by omega) (by omega))
  go_enter Try.func39, Try.ntmps39
  go_wp2
  go_loopw [0, 3] (fun v s wr => ∃ (m : Nat) (pre : List Int), v = .int .i64 m ∧ s = .string (strOfNums pre) ∧ Hid (pre ++ natB m = natB n) ∧ m ≤ n ∧ Bel w wr) (fun v _ _ => (intOf v).toNat)
  case atStart => exact ⟨n, [], rfl, rfl, rfl, by omega, Bel.rfl_ w⟩
  case round =>
    obtain ⟨m, pre, rfl, rfl, hp, hm, hb⟩ := hrel
    have hpl : pre.length ≤ 9 := by
      have h1 := congrArg List.length hp.out
      rw [List.length_append] at h1
      have := HN.out
      omega
    have HB := Lib.hid hb; clear hb
    by_cases h : m < 128
    · go_wp2
      go_ret
      refine ⟨?_, HB.out.al _⟩
      rw [← hp.out, natB_lo h, str_app]
      rfl
    · go_wp2
      go_roundw
      case rel => exact ⟨m / 128, pre ++ [((m % 128 + 128 : Nat) : Int)], by go_num, by rw [str_app]; rfl, (by unfold Hid; rw [← hp.out, natB_hi h, List.append_assoc]; rfl), by omega, HB.out.al _⟩
      case measure => simp [intOf]; omega

end Go.Proofs.Ytdfbhlehfbckjaa
