/- Are an event's numbers of four bytes? the program's way and the document's. Each lemma states its own conditions. -/
import Derived.Test.YtdfbhlehfbckjaaIdxA
namespace Go.Proofs.Ytdfbhlehfbckjaa
open Go.RowKit

def isN (n : Int) : Bool := decide (-2147483648 ≤ n ∧ n ≤ 2147483647)
def evSmall (e : Ev) : Bool := isN e.kind && isN e.frame && isN e.at_ && isN e.var && isN e.index && isN e.value
theorem isN_iff {n : Int} : isN n = true ↔ (-2147483648 ≤ n ∧ n ≤ 2147483647) := by unfold isN; simp

theorem small_any (n : Int) (w : World) : Calls Try.prog 46 #[.int .i64 n] w fun r w' => r = .returned (.bool (isN n)) ∧ w = w' := by
  go_enter Try.func46, Try.ntmps46
  go_wp2
  all_goals go_ret
  all_goals refine ⟨ret_bool ?_, rfl⟩
  all_goals simp_all [isN]
  all_goals omega

theorem isNumber_any (n : Int) (w : World) : Calls Try.prog 38 #[.int .i64 n] w fun r w' => r = .returned (.bool (isN n)) ∧ w = w' := by
  go_enter Try.func38, Try.ntmps38
  go_wp2_with (go_at_call 26; refine (between_any _ _ _ _).mono ?_; rintro e w' ⟨rfl, rfl⟩)
  all_goals go_ret
  all_goals exact ⟨ret_bool (by unfold isN; simp), rfl⟩

theorem logSmall_any (e : Ev) (w : World) : Calls Try.prog 31 #[e.val] w fun r w' => r = .returned (.bool (evSmall e)) ∧ Bel w w' := by
  unfold Ev.val evSmall
  cases h0 : isN e.kind with
  | false =>
    go_enter Try.func31, Try.ntmps31
    go_wp2_with (go_at_call 46; refine (small_any _ _).mono ?_; rintro e w' ⟨rfl, rfl⟩; try simp only [h0])
    go_ret
    exact ⟨ret_bool (by simp), by repeat (first | exact Bel.rfl_ _ | apply Bel.al | apply Bel.dr)⟩
  | true =>
  cases h1 : isN e.frame with
  | false =>
    go_enter Try.func31, Try.ntmps31
    go_wp2_with (go_at_call 46; refine (small_any _ _).mono ?_; rintro e w' ⟨rfl, rfl⟩; try simp only [h0, h1])
    go_ret
    exact ⟨ret_bool (by simp), by repeat (first | exact Bel.rfl_ _ | apply Bel.al | apply Bel.dr)⟩
  | true =>
  cases h2 : isN e.at_ with
  | false =>
    go_enter Try.func31, Try.ntmps31
    go_wp2_with (go_at_call 46; refine (small_any _ _).mono ?_; rintro e w' ⟨rfl, rfl⟩; try simp only [h0, h1, h2])
    go_ret
    exact ⟨ret_bool (by simp), by repeat (first | exact Bel.rfl_ _ | apply Bel.al | apply Bel.dr)⟩
  | true =>
  cases h3 : isN e.var with
  | false =>
    go_enter Try.func31, Try.ntmps31
    go_wp2_with (go_at_call 46; refine (small_any _ _).mono ?_; rintro e w' ⟨rfl, rfl⟩; try simp only [h0, h1, h2, h3])
    go_ret
    exact ⟨ret_bool (by simp), by repeat (first | exact Bel.rfl_ _ | apply Bel.al | apply Bel.dr)⟩
  | true =>
  cases h4 : isN e.index with
  | false =>
    go_enter Try.func31, Try.ntmps31
    go_wp2_with (go_at_call 46; refine (small_any _ _).mono ?_; rintro e w' ⟨rfl, rfl⟩; try simp only [h0, h1, h2, h3, h4])
    go_ret
    exact ⟨ret_bool (by simp), by repeat (first | exact Bel.rfl_ _ | apply Bel.al | apply Bel.dr)⟩
  | true =>
  cases h5 : isN e.value with
  | false =>
    go_enter Try.func31, Try.ntmps31
    go_wp2_with (go_at_call 46; refine (small_any _ _).mono ?_; rintro e w' ⟨rfl, rfl⟩; try simp only [h0, h1, h2, h3, h4, h5])
    go_ret
    exact ⟨ret_bool (by simp), by repeat (first | exact Bel.rfl_ _ | apply Bel.al | apply Bel.dr)⟩
  | true =>
  go_enter Try.func31, Try.ntmps31
  go_wp2_with (go_at_call 46; refine (small_any _ _).mono ?_; rintro e w' ⟨rfl, rfl⟩; try simp only [h0, h1, h2, h3, h4, h5])
  go_ret
  exact ⟨ret_bool (by simp), by repeat (first | exact Bel.rfl_ _ | apply Bel.al | apply Bel.dr)⟩

theorem notSmall_any (g : Nat) (hg : g = 30 ∨ g = 37) (e : Ev) (w : World) : Calls Try.prog g #[e.val] w fun r w' => r = .returned (.bool (!evSmall e)) ∧ Bel w w' := by
  have hL := Lib.hid (logSmall_any e)
  unfold Ev.val at hL ⊢
  rcases hg with rfl | rfl
  · go_enter Try.func30, Try.ntmps30
    go_wp2_with (go_at_call 31; refine (hL.out _).mono ?_; rintro e w1 ⟨rfl, hb1⟩; have HB1 := Lib.hid hb1; clear hb1)
    go_ret
    exact ⟨rfl, Bel.tr (by repeat (first | exact Bel.rfl_ _ | apply Bel.al | apply Bel.dr)) HB1.out⟩
  · go_enter Try.func37, Try.ntmps37
    go_wp2_with (go_at_call 31; refine (hL.out _).mono ?_; rintro e w1 ⟨rfl, hb1⟩; have HB1 := Lib.hid hb1; clear hb1)
    go_ret
    exact ⟨rfl, Bel.tr (by repeat (first | exact Bel.rfl_ _ | apply Bel.al | apply Bel.dr)) HB1.out⟩

end Go.Proofs.Ytdfbhlehfbckjaa
