/- A crash somewhere on the way: plain law. Each lemma states its own conditions. -/
import Derived.Test.YtkojeofegoljpaaLogV
namespace Go.Proofs.Ytkojeofegoljpaa
open Go.RowKit

theorem Dk.crashed_of {d : Dk} (h : d.err = 0) (keep : List Bool) : (d.crashed keep).err = 0 ∧ (d.crashed keep).kept.length = d.kept.length ∧ (d.crashed keep).written = [] := by
  obtain ⟨h1, h2, h3, h4⟩ := Dk.err_zero h
  rw [Dk.crashed, if_pos h]
  exact ⟨Dk.err_of (by rw [crs_len]; exact h1) (crs_size _ _ _ _ (fun x hx => (h4 x hx).2) h2) (by simp) (by simp), crs_len _ _ _ _, rfl⟩
theorem pref_err {d : Dk} {u : Nat} {l : List Ev} (he : d.err = 0) (hl : l.length ≤ 60) (hu : u + 1 + l.length ≤ d.kept.length) (i : Nat) : (Dk.mk d.kept ((bodyW u l).take i)).err = 0 := by
  obtain ⟨h1, h2, h3, h4⟩ := Dk.err_zero (bodyD_err he hl hu)
  refine Dk.err_of h1 h2 ?_ fun x hx => h4 x (List.mem_of_mem_take hx)
  have : ((bodyW u l).take i).length ≤ (bodyW u l).length := by rw [List.length_take]; omega
  exact Nat.le_trans this h3
theorem mem_ways {k : List ByteArray} {t : Int} {u : Nat} {l : List Ev} {D : Dk} (h : D ∈ appWays k t u l) : (∃ i, D = ⟨k, (bodyW u l).take i⟩) ∨ D = (bodyD k u l).flushed ∨ D = appH k t u l ∨ D = appF k t u l := by
  unfold appWays at h
  rw [List.mem_append, List.mem_append, List.mem_append, List.mem_singleton, List.mem_singleton, List.mem_singleton] at h
  rcases h with ((h | h) | h) | h
  · unfold prefW at h
    obtain ⟨i, _, rfl⟩ := List.mem_map.1 h
    exact .inl ⟨i + 1, rfl⟩
  · exact .inr (.inl h)
  · exact .inr (.inr (.inl h))
  · exact .inr (.inr (.inr h))
/-- wherever the crash is: all that was there is there, and this one whole or not at all -/
theorem way_crash {d : Dk} {t : Int} {u : Nat} {bs : List (List Ev)} {l : List Ev} (he : d.err = 0) (h : loadOf d.kept = some (t, u, bs)) (ht : t < 2147483647) (hs : l.all evSmall = true) (hl : l.length ≤ 60) (hu : u + 1 + l.length ≤ d.kept.length)
    (keep : List Bool) {D : Dk} (hD : D ∈ appWays d.kept t u l) : D.err = 0 ∧ (loadOf (D.crashed keep).kept = some (t, u, bs) ∨ loadOf (D.crashed keep).kept = some (t + 1, u + 1 + l.length, bs ++ [l])) ∧ D.kept.length = d.kept.length := by
  obtain ⟨ht0, ht1, hu2, hul⟩ := loadOf_in h
  have h1 := bodyD_err he hl hu
  have h2 := appH_err (t := t) he hl hu hu2
  obtain ⟨f1, f2, f3⟩ := Dk.flushed_of h1
  obtain ⟨g1, g2, g3⟩ := Dk.flushed_of h2
  have hF1 : loadOf (bodyD d.kept u l).flushed.kept = some (t, u, bs) := by
    rw [Dk.flushed, if_pos h1]
    exact loadOf_same (crs_same (u := u) _ _ _ _ fun x hx => bodyW_from hx) h
  have hlen : (appH d.kept t u l).kept.length = d.kept.length := f2
  rcases mem_ways hD with ⟨i, rfl⟩ | rfl | rfl | rfl
  · refine ⟨pref_err he hl hu i, .inl ?_, rfl⟩
    rw [Dk.crashed, if_pos (pref_err he hl hu i)]
    exact loadOf_same (crs_same (u := u) _ _ _ _ fun x hx => bodyW_from (List.mem_of_mem_take hx)) h
  · exact ⟨f1, .inl (by rw [Dk.crashed_flushed h1]; exact hF1), f2⟩
  · refine ⟨h2, ?_, hlen⟩
    have hn := load_new he h ht hs hl hu
    rw [Dk.crashed, if_pos h2]
    have e : (appF d.kept t u l).kept = (bodyD d.kept u l).flushed.kept.set ((t + 1) % 2).toNat (headS t u l) := by
      rw [appF_kept he hl hu hu2, Dk.flushed, if_pos h1]
      rfl
    have hw : (appH d.kept t u l).written = [⟨(t + 1) % 2, headS t u l⟩] := by
      show (bodyD d.kept u l).flushed.written ++ _ = _
      rw [f3]
      rfl
    have hk : (appH d.kept t u l).kept = (bodyD d.kept u l).flushed.kept := rfl
    rw [hw, hk, crs, crs]
    cases kb keep 0 with
    | true =>
      rw [if_pos rfl, ← e]
      exact .inr hn
    | false => exact .inl hF1
  · refine ⟨g1, .inr ?_, by show (appH d.kept t u l).flushed.kept.length = _; rw [g2]; exact hlen⟩
    have : (appF d.kept t u l).crashed keep = appF d.kept t u l := Dk.crashed_flushed h2 keep
    rw [this]
    exact load_new he h ht hs hl hu
theorem ways_len (k : List ByteArray) (t : Int) (u : Nat) (l : List Ev) : (appWays k t u l).length = l.length + 4 := by
  simp only [appWays, List.length_append, prefW_len, List.length_singleton]
theorem ways_last (k : List ByteArray) (t : Int) (u : Nat) (l : List Ev) : (appWays k t u l)[l.length + 3]? = some (appF k t u l) := by
  rw [appWays, List.getElem?_append_right (by simp only [List.length_append, prefW_len, List.length_singleton]; omega)]
  simp only [List.length_append, prefW_len, List.length_singleton]
  rw [show l.length + 3 - (l.length + 1 + 1 + 1) = 0 by omega]
  rfl
/-- behind the last step it is there -/
theorem last_crash {d : Dk} {t : Int} {u : Nat} {bs : List (List Ev)} {l : List Ev} (he : d.err = 0) (h : loadOf d.kept = some (t, u, bs)) (ht : t < 2147483647) (hs : l.all evSmall = true) (hl : l.length ≤ 60) (hu : u + 1 + l.length ≤ d.kept.length)
    (keep : List Bool) : loadOf ((appF d.kept t u l).crashed keep).kept = some (t + 1, u + 1 + l.length, bs ++ [l]) := by
  have h2 := appH_err (t := t) he hl hu (loadOf_in h).2.2.1
  have : (appF d.kept t u l).crashed keep = appF d.kept t u l := Dk.crashed_flushed h2 keep
  rw [this]
  exact load_new he h ht hs hl hu

/-- one disk is a Write, or a Flush, further than another one -/
def StepOf (a b : Dk) : Prop := b = a.flushed ∨ ∃ n s, b = a.put n s ∧ a.wr n s = 0

end Go.Proofs.Ytkojeofegoljpaa
