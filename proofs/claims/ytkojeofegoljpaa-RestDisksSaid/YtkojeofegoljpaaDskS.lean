/- What a disk keeps: plain law. Each lemma states its own conditions. -/
import Derived.Test.YtkojeofegoljpaaDskQ
namespace Go.Proofs.Ytkojeofegoljpaa

theorem wErr_all {n : Nat} : ∀ {l : List Wr}, (∀ x ∈ l, (0 ≤ x.sector ∧ x.sector < n) ∧ x.bytes.size = 32) → wErr n l = 0
  | [], _ => rfl
  | x :: xs, h => by
    obtain ⟨h1, h2⟩ := h x (by simp)
    rw [wErr, if_pos h1, if_pos h2]
    exact wErr_all fun y hy => h y (by simp [hy])
theorem Dk.err_of {d : Dk} (h1 : 1 ≤ d.kept.length ∧ d.kept.length ≤ 600) (h2 : ∀ s ∈ d.kept, s.size = 32) (h3 : d.written.length ≤ 600) (h4 : ∀ x ∈ d.written, (0 ≤ x.sector ∧ x.sector < d.kept.length) ∧ x.bytes.size = 32) : d.err = 0 := by
  unfold Dk.err
  rw [if_pos h1, if_pos (by rw [List.all_eq_true]; intro s hs; simpa using h2 s hs), if_pos h3]
  exact wErr_all h4
theorem Dk.ok_of {d : Dk} (h : d.err = 0) : d.ok := by
  obtain ⟨_, h2, _, h4⟩ := Dk.err_zero h
  refine ⟨fun s hs => ?_, fun x hx => ?_⟩
  · rw [h2 s hs]; decide
  · rw [(h4 x hx).2]; decide
theorem wr_zero {d : Dk} {n : Int} {s : ByteArray} (h : d.wr n s = 0) : d.one n = 0 ∧ s.size = 32 ∧ d.written.length ≠ 600 := by
  unfold Dk.wr at h
  split at h
  · split at h
    · split at h
      · cases h
      · exact ⟨‹_›, ‹_›, ‹_›⟩
    · cases h
  · exact absurd h ‹_›
theorem put_err {d : Dk} {n : Int} {s : ByteArray} (h : d.wr n s = 0) : (d.put n s).err = 0 := by
  obtain ⟨h1, h2, h3⟩ := wr_zero h
  obtain ⟨he, hn⟩ := Dk.one_zero h1
  obtain ⟨e1, e2, e3, e4⟩ := Dk.err_zero he
  refine Dk.err_of e1 e2 ?_ ?_
  · show (d.written ++ [_]).length ≤ 600
    rw [List.length_append, List.length_singleton]
    omega
  · intro x hx
    rcases List.mem_append.1 hx with hx | hx
    · exact e4 x hx
    · rcases List.mem_singleton.1 hx with rfl
      exact ⟨hn, h2⟩
theorem Dk.one_of {d : Dk} {n : Int} (h : d.err = 0) (hn : 0 ≤ n ∧ n < d.kept.length) : d.one n = 0 := by
  rw [Dk.one, if_pos h, if_pos hn]
theorem put_one {d : Dk} {n : Int} {s : ByteArray} (h : d.wr n s = 0) : (d.put n s).one n = 0 := Dk.one_of (put_err h) (Dk.one_zero (wr_zero h).1).2
theorem lw_app (n : Int) (x : Wr) : ∀ (a : List Wr) (s : ByteArray), lw n s (a ++ [x]) = if x.sector = n then x.bytes else lw n s a
  | [], s => rfl
  | y :: a, s => by rw [List.cons_append, lw, lw_app n x a, lw]
theorem put_read {d : Dk} {n : Int} {s : ByteArray} (h : d.wr n s = 0) : (d.put n s).read n = s := by
  rw [Dk.read, if_pos (put_one h)]
  show lw n _ (d.written ++ [_]) = s
  rw [lw_app, if_pos rfl]
theorem crs_len (f : Nat → Bool) : ∀ (l : List Wr) (i : Nat) (k : List ByteArray), (crs f i l k).length = k.length
  | [], _, _ => rfl
  | x :: xs, i, k => by
    rw [crs, crs_len f xs]
    split
    · rw [List.length_set]
    · rfl
theorem crs_size (f : Nat → Bool) : ∀ (l : List Wr) (i : Nat) (k : List ByteArray), (∀ x ∈ l, x.bytes.size = 32) → (∀ s ∈ k, s.size = 32) → ∀ s ∈ crs f i l k, s.size = 32
  | [], _, _, _, hk => hk
  | x :: xs, i, k, hl, hk => by
    rw [crs]
    refine crs_size f xs _ _ (fun y hy => hl y (by simp [hy])) fun s hs => ?_
    split at hs
    · rcases List.mem_or_eq_of_mem_set hs with hs | rfl
      · exact hk s hs
      · exact hl x (by simp)
    · exact hk s hs
theorem crs_app (x : Wr) (f : Nat → Bool) : ∀ (l : List Wr) (i : Nat) (k : List ByteArray), crs f i (l ++ [x]) k = if f (i + l.length) = true then (crs f i l k).set x.sector.toNat x.bytes else crs f i l k
  | [], i, k => by rw [List.nil_append, crs, crs, crs]; rfl
  | y :: l, i, k => by rw [List.cons_append, crs, crs_app x f l, crs, List.length_cons, show i + 1 + l.length = i + (l.length + 1) by omega]
theorem Dk.flushed_of {d : Dk} (h : d.err = 0) : d.flushed.err = 0 ∧ d.flushed.kept.length = d.kept.length ∧ d.flushed.written = [] := by
  obtain ⟨h1, h2, h3, h4⟩ := Dk.err_zero h
  rw [Dk.flushed, if_pos h]
  refine ⟨Dk.err_of (by rw [crs_len]; exact h1) (crs_size _ _ _ _ (fun x hx => (h4 x hx).2) h2) (by simp) (by simp), crs_len _ _ _ _, rfl⟩
theorem Dk.crashed_flushed {d : Dk} (h : d.err = 0) (l : List Bool) : d.flushed.crashed l = d.flushed := by
  obtain ⟨h1, _, h3⟩ := Dk.flushed_of h
  rw [Dk.crashed, if_pos h1, h3, crs]
  generalize d.flushed = q at h3
  cases q
  simp only at h3
  rw [h3]
theorem put_flushed_read {d : Dk} {n : Int} {s : ByteArray} (h : d.wr n s = 0) : (d.put n s).flushed.one n = 0 ∧ (d.put n s).flushed.read n = s := by
  have hn := (Dk.one_zero (wr_zero h).1).2
  obtain ⟨h1, h2, h3⟩ := Dk.flushed_of (put_err h)
  have ho : (d.put n s).flushed.one n = 0 := Dk.one_of h1 (by rw [h2]; exact hn)
  refine ⟨ho, ?_⟩
  rw [Dk.read, if_pos ho, h3, lw, Dk.flushed, if_pos (put_err h)]
  show (crs _ 0 (d.written ++ [⟨n, s⟩]) d.kept)[n.toNat]?.getD _ = s
  rw [crs_app, if_pos rfl]
  show ((crs _ 0 d.written d.kept).set n.toNat s)[n.toNat]?.getD _ = s
  rw [List.getElem?_set_self (by rw [crs_len]; omega)]
  rfl
theorem wrote_none {d : Dk} {n : Int} {s : ByteArray} (h : d.wr n s ≠ 0) : (d.wrote n s).kept.length = 0 := by
  rw [Dk.wrote, if_neg h]
  rfl

end Go.Proofs.Ytkojeofegoljpaa
