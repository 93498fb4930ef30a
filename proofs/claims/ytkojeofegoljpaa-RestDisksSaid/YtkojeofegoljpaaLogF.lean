/- Are an event's numbers of four bytes? the log's way and the document's. Each lemma states its own conditions. -/
import Derived.Test.YtkojeofegoljpaaDskC
import Derived.Test.YtkojeofegoljpaaBtw
namespace Go.Proofs.Ytkojeofegoljpaa
open Go.RowKit

def isN (n : Int) : Bool := decide (-2147483648 ≤ n ∧ n ≤ 2147483647)
def evSmall (e : Ev) : Bool := isN e.kind && isN e.frame && isN e.at_ && isN e.var && isN e.index && isN e.value
theorem isN_iff {n : Int} : isN n = true ↔ (-2147483648 ≤ n ∧ n ≤ 2147483647) := by unfold isN; simp

theorem small_any (n : Int) (w : World) : Calls Try.prog 71 #[.int .i64 n] w fun r w' => r = .returned (.bool (isN n)) ∧ w = w' := by
  go_enter Try.func71, Try.ntmps71
  go_wp2
  all_goals go_ret
  all_goals refine ⟨ret_bool ?_, rfl⟩
  all_goals simp_all [isN]
  all_goals omega

theorem isNumber_any (n : Int) (w : World) : Calls Try.prog 56 #[.int .i64 n] w fun r w' => r = .returned (.bool (isN n)) ∧ w = w' := by
  go_enter Try.func56, Try.ntmps56
  go_wp2_with (go_at_call 43; refine (between_any _ _ _ _).mono ?_; rintro e w' ⟨rfl, rfl⟩)
  all_goals go_ret
  all_goals exact ⟨ret_bool (by unfold isN; simp), rfl⟩

theorem logSmall_any (e : Ev) (w : World) : Calls Try.prog 49 #[e.val] w fun r w' => r = .returned (.bool (evSmall e)) ∧ Bel w w' := by
  unfold Ev.val evSmall
  cases h0 : isN e.kind with
  | false =>
    go_enter Try.func49, Try.ntmps49
    go_wp2_with (go_at_call 71; refine (small_any _ _).mono ?_; rintro e w' ⟨rfl, rfl⟩; try simp only [h0])
    go_ret
    exact ⟨ret_bool (by simp), by repeat (first | exact Bel.rfl_ _ | apply Bel.al | apply Bel.dr)⟩
  | true =>
  cases h1 : isN e.frame with
  | false =>
    go_enter Try.func49, Try.ntmps49
    go_wp2_with (go_at_call 71; refine (small_any _ _).mono ?_; rintro e w' ⟨rfl, rfl⟩; try simp only [h0, h1])
    go_ret
    exact ⟨ret_bool (by simp), by repeat (first | exact Bel.rfl_ _ | apply Bel.al | apply Bel.dr)⟩
  | true =>
  cases h2 : isN e.at_ with
  | false =>
    go_enter Try.func49, Try.ntmps49
    go_wp2_with (go_at_call 71; refine (small_any _ _).mono ?_; rintro e w' ⟨rfl, rfl⟩; try simp only [h0, h1, h2])
    go_ret
    exact ⟨ret_bool (by simp), by repeat (first | exact Bel.rfl_ _ | apply Bel.al | apply Bel.dr)⟩
  | true =>
  cases h3 : isN e.var with
  | false =>
    go_enter Try.func49, Try.ntmps49
    go_wp2_with (go_at_call 71; refine (small_any _ _).mono ?_; rintro e w' ⟨rfl, rfl⟩; try simp only [h0, h1, h2, h3])
    go_ret
    exact ⟨ret_bool (by simp), by repeat (first | exact Bel.rfl_ _ | apply Bel.al | apply Bel.dr)⟩
  | true =>
  cases h4 : isN e.index with
  | false =>
    go_enter Try.func49, Try.ntmps49
    go_wp2_with (go_at_call 71; refine (small_any _ _).mono ?_; rintro e w' ⟨rfl, rfl⟩; try simp only [h0, h1, h2, h3, h4])
    go_ret
    exact ⟨ret_bool (by simp), by repeat (first | exact Bel.rfl_ _ | apply Bel.al | apply Bel.dr)⟩
  | true =>
  cases h5 : isN e.value with
  | false =>
    go_enter Try.func49, Try.ntmps49
    go_wp2_with (go_at_call 71; refine (small_any _ _).mono ?_; rintro e w' ⟨rfl, rfl⟩; try simp only [h0, h1, h2, h3, h4, h5])
    go_ret
    exact ⟨ret_bool (by simp), by repeat (first | exact Bel.rfl_ _ | apply Bel.al | apply Bel.dr)⟩
  | true =>
  go_enter Try.func49, Try.ntmps49
  go_wp2_with (go_at_call 71; refine (small_any _ _).mono ?_; rintro e w' ⟨rfl, rfl⟩; try simp only [h0, h1, h2, h3, h4, h5])
  go_ret
  exact ⟨ret_bool (by simp), by repeat (first | exact Bel.rfl_ _ | apply Bel.al | apply Bel.dr)⟩

theorem notSmall_any (g : Nat) (hg : g = 48) (e : Ev) (w : World) : Calls Try.prog g #[e.val] w fun r w' => r = .returned (.bool (!evSmall e)) ∧ Bel w w' := by
  have hL := Lib.hid (logSmall_any e)
  unfold Ev.val at hL ⊢
  subst hg
  go_enter Try.func48, Try.ntmps48
  go_wp2_with (go_at_call 49; refine (hL.out _).mono ?_; rintro e w1 ⟨rfl, hb1⟩; have HB1 := Lib.hid hb1; clear hb1)
  go_ret
  exact ⟨rfl, Bel.tr (by repeat (first | exact Bel.rfl_ _ | apply Bel.al | apply Bel.dr)) HB1.out⟩


theorem EvAt.keepB {w w' : World} (h : Bel w w') {b o : Nat} {e : Ev} : EvAt w b o e → EvAt w' b o e := fun ⟨x0, x1, x2, x3, x4, x5⟩ => ⟨h.cell x0, h.cell x1, h.cell x2, h.cell x3, h.cell x4, h.cell x5⟩
theorem all_succ {α : Type} {p : α → Bool} {l : List α} {k : Nat} {e : α} (he : l[k]? = some e) (h : (l.take k).all p = true) : (l.take (k + 1)).all p = p e := by
  obtain ⟨hk, rfl⟩ := List.getElem?_eq_some_iff.1 he
  rw [List.take_succ_eq_append_getElem hk, List.all_append, h]
  simp
theorem all_of_not {α : Type} {p : α → Bool} {l : List α} {k : Nat} {e : α} (he : l[k]? = some e) (h : p e = false) : l.all p = false := by
  rw [List.all_eq_false]
  exact ⟨e, List.mem_of_getElem? he, by simp [h]⟩

theorem indexFunc_any (g : Nat) (hg : g = 48) (v : Value) (l : List Ev) (w : World) (h : Sl evR w v l) (hl : ok64 l.length) :
    Calls Try.prog 70 #[v, .func (.func g) #[] #[]] w fun r w' => ∃ k : Int, r = .returned (.int .i64 k) ∧ decide (k ≥ 0) = !l.all evSmall ∧ Bel w w' := by
  obtain ⟨A, c, rfl, hc, hm, hA⟩ := h
  unfold ok64 at hl
  have HA := Lib.hid hA; clear hA
  have hF := Lib.hid (notSmall_any g hg)
  unfold Ev.val at hF
  subst hg
  all_goals
    go_enter Try.func70, Try.ntmps70
    go_wp2
    go_loopw [8] (fun i wr => ∃ k : Nat, k ≤ l.length ∧ i = .int .i64 k ∧ Hid ((l.take k).all evSmall = true) ∧ Bel w wr) (fun i _ => l.length - (intOf i).toNat)
    case atStart => exact ⟨0, by omega, rfl, rfl, Bel.rfl_ w⟩
    case round =>
      obtain ⟨k, hk, rfl, ht, hb⟩ := hrel
      by_cases hlt : k < l.length
      · obtain ⟨e, he⟩ : ∃ e, l[k]? = some e := ⟨_, List.getElem?_eq_getElem hlt⟩
        obtain ⟨bb, bo, rfl, hA⟩ := HA.out (by omega)
        obtain ⟨x0, x1, x2, x3, x4, x5⟩ := EvAt.keepB hb (evR.cells hA he)
        have HB := Lib.hid hb; have HE := Lib.hid he; clear hb hA he HA
        cases hs : evSmall e with
        | true =>
          go_wp2_with (go_at_call 48; refine (hF.out _ _).mono ?_; rintro e w1 ⟨rfl, hb1⟩; have HB1 := Lib.hid (HB.out.tr hb1); clear hb1; simp only [hs, Bool.not_true])
          go_roundw
          case rel => exact ⟨k + 1, by omega, by go_num, (by unfold Hid; rw [all_succ HE.out ht.out]; exact hs), HB1.out⟩
          case measure => simp [intOf]; omega
        | false =>
          go_wp2_with (go_at_call 48; refine (hF.out _ _).mono ?_; rintro e w1 ⟨rfl, hb1⟩; have HB1 := Lib.hid (HB.out.tr hb1); clear hb1; simp only [hs, Bool.not_false])
          go_ret
          exact ⟨_, rfl, by rw [all_of_not HE.out hs]; simp, HB1.out⟩
      · go_wp2
        go_ret
        refine ⟨_, rfl, ?_, hb⟩
        have := ht.out
        rw [List.take_of_length_le (by omega)] at this
        rw [this]
        rfl

set_option maxHeartbeats 1000000 in
theorem containsFunc_any (g : Nat) (hg : g = 48) (v : Value) (l : List Ev) (w : World) (h : Sl evR w v l) (hl : ok64 l.length) :
    Calls Try.prog 47 #[v, .func (.func g) #[] #[]] w fun r w' => r = .returned (.bool (!l.all evSmall)) ∧ Bel w w' := by
  subst hg
  have hC := Lib.hid (indexFunc_any _ rfl v l w h hl)
  obtain ⟨A, c, rfl, hc, hm, hA⟩ := h
  clear hA
  go_enter Try.func47, Try.ntmps47
  go_wp2_with fail
  refine hC.out.mono ?_
  rintro e w1 ⟨k, rfl, hd, hb1⟩
  have HD := Lib.hid hd; have HB1 := Lib.hid hb1; clear hd hb1
  go_wp2
  go_ret
  exact ⟨ret_bool HD.out, HB1.out⟩

set_option maxHeartbeats 1000000 in
theorem areSmall_any (v : Value) (l : List Ev) (w : World) (h : Sl evR w v l) (hl : ok64 l.length) :
    Calls Try.prog 25 #[v] w fun r w' => r = .returned (.bool (l.all evSmall)) ∧ Bel w w' := by
  obtain ⟨A, c, rfl, hc, hm, hA⟩ := h
  unfold ok64 at hl
  have HA := Lib.hid hA; clear hA
  go_enter Try.func25, Try.ntmps25
  go_wp2
  go_loopw [3] (fun i wr => ∃ k : Nat, k ≤ l.length ∧ i = .int .i64 k ∧ Hid ((l.take k).all evSmall = true) ∧ Bel w wr) (fun i _ => l.length - (intOf i).toNat)
  case atStart => exact ⟨0, by omega, rfl, rfl, Bel.rfl_ w⟩
  case round =>
    obtain ⟨k, hk, rfl, ht, hb⟩ := hrel
    by_cases hlt : k < l.length
    · obtain ⟨e, he⟩ : ∃ e, l[k]? = some e := ⟨_, List.getElem?_eq_getElem hlt⟩
      obtain ⟨bb, bo, rfl, hA⟩ := HA.out (by omega)
      obtain ⟨x0, x1, x2, x3, x4, x5⟩ := EvAt.keepB hb (evR.cells hA he)
      have HB := Lib.hid hb; have HE := Lib.hid he; clear hb hA he HA
      cases h0 : isN e.kind with
      | false =>
        go_wp2_with (go_at_call 56; refine (isNumber_any _ _).mono ?_; rintro e w' ⟨rfl, rfl⟩; try simp only [h0])
        go_ret
        exact ⟨ret_bool (by rw [all_of_not HE.out (by simp [evSmall, h0])]), HB.out.tr (by repeat (first | exact Bel.rfl_ _ | apply Bel.al | apply Bel.dr))⟩
      | true =>
      cases h1 : isN e.frame with
      | false =>
        go_wp2_with (go_at_call 56; refine (isNumber_any _ _).mono ?_; rintro e w' ⟨rfl, rfl⟩; try simp only [h0, h1])
        go_ret
        exact ⟨ret_bool (by rw [all_of_not HE.out (by simp [evSmall, h0, h1])]), HB.out.tr (by repeat (first | exact Bel.rfl_ _ | apply Bel.al | apply Bel.dr))⟩
      | true =>
      cases h2 : isN e.at_ with
      | false =>
        go_wp2_with (go_at_call 56; refine (isNumber_any _ _).mono ?_; rintro e w' ⟨rfl, rfl⟩; try simp only [h0, h1, h2])
        go_ret
        exact ⟨ret_bool (by rw [all_of_not HE.out (by simp [evSmall, h0, h1, h2])]), HB.out.tr (by repeat (first | exact Bel.rfl_ _ | apply Bel.al | apply Bel.dr))⟩
      | true =>
      cases h3 : isN e.var with
      | false =>
        go_wp2_with (go_at_call 56; refine (isNumber_any _ _).mono ?_; rintro e w' ⟨rfl, rfl⟩; try simp only [h0, h1, h2, h3])
        go_ret
        exact ⟨ret_bool (by rw [all_of_not HE.out (by simp [evSmall, h0, h1, h2, h3])]), HB.out.tr (by repeat (first | exact Bel.rfl_ _ | apply Bel.al | apply Bel.dr))⟩
      | true =>
      cases h4 : isN e.index with
      | false =>
        go_wp2_with (go_at_call 56; refine (isNumber_any _ _).mono ?_; rintro e w' ⟨rfl, rfl⟩; try simp only [h0, h1, h2, h3, h4])
        go_ret
        exact ⟨ret_bool (by rw [all_of_not HE.out (by simp [evSmall, h0, h1, h2, h3, h4])]), HB.out.tr (by repeat (first | exact Bel.rfl_ _ | apply Bel.al | apply Bel.dr))⟩
      | true =>
      cases h5 : isN e.value with
      | false =>
        go_wp2_with (go_at_call 56; refine (isNumber_any _ _).mono ?_; rintro e w' ⟨rfl, rfl⟩; try simp only [h0, h1, h2, h3, h4, h5])
        go_ret
        exact ⟨ret_bool (by rw [all_of_not HE.out (by simp [evSmall, h0, h1, h2, h3, h4, h5])]), HB.out.tr (by repeat (first | exact Bel.rfl_ _ | apply Bel.al | apply Bel.dr))⟩
      | true =>
      go_wp2_with (go_at_call 56; refine (isNumber_any _ _).mono ?_; rintro e w' ⟨rfl, rfl⟩; try simp only [h0, h1, h2, h3, h4, h5])
      go_roundw
      case rel => exact ⟨k + 1, by omega, by go_num, (by unfold Hid; rw [all_succ HE.out ht.out]; simp [evSmall, h0, h1, h2, h3, h4, h5]), HB.out.tr (by repeat (first | exact Bel.rfl_ _ | apply Bel.al | apply Bel.dr))⟩
      case measure => simp [intOf]; omega
    · go_wp2
      go_ret
      have := ht.out
      rw [List.take_of_length_le (by omega)] at this
      exact ⟨ret_bool this.symm, hb⟩


end Go.Proofs.Ytkojeofegoljpaa
