/- slices.Repeat of one string, walked. Each lemma states its own conditions. -/
import Derived.Test.YtkojeofegoljpaaDskJ
import Derived.Test.YtkojeofegoljpaaShelf
import Derived.Laws.CopyOwn
import Derived.Deep.OwnRows
namespace Go.Proofs.Ytkojeofegoljpaa
open Go.RowKit

theorem splice_rep {α : Type} (x z : α) (n k m : Nat) (h : k + m ≤ n) : splice (List.replicate k x ++ List.replicate (n - k) z) k (List.replicate m x) = List.replicate (k + m) x ++ List.replicate (n - (k + m)) z := by
  unfold splice
  rw [List.take_left' (by simp), List.length_replicate, List.drop_append, List.length_replicate, List.drop_eq_nil_of_le (by simp), List.nil_append, List.drop_replicate, ← List.append_assoc, List.replicate_append_replicate, show n - k - (k + m - k) = n - (k + m) by omega]

set_option maxRecDepth 20000 in
set_option maxHeartbeats 1000000 in
theorem repeatS_any (u : ByteArray) (n : Nat) (b o : Nat) (w : World) (hc : w.cell? ⟨b, o, none⟩ = some (.string u)) (hn1 : 1 ≤ n) (hn2 : n ≤ 600) :
    Calls Try.prog 36 #[.slice (some ⟨b, o, none⟩) 1 1, .int .i64 n] w fun r w' => r = .returned (.slice (some ⟨w.heap.size, 0, none⟩) n n) ∧ Blk w' w.heap.size 9 (List.replicate n (Value.string u)).toArray ∧ Bel w w' := by
  have HM : Hid (∀ W, Calls Try.prog 65 #[.int .u64 1, .int .u64 n] W fun r w' => r = .returned (.tuple #[.int .u64 0, .int .u64 n]) ∧ w' = W) := Lib.hid (fun W => by
    have := Try.bits_Mul 1 n (by decide) (by omega) W
    rw [show 1 * n / 18446744073709551616 = 0 by omega, show 1 * n % 18446744073709551616 = n by omega] at this
    exact this)
  have hmk := run_make_row' (P := Try.prog) 22 9 (.string ⟨#[]⟩) 16 Try.underlying22 (by kernel_rfl) rfl .i64 .i64 n (by omega) (by omega)
  have hmc : madeCells #[Value.string ⟨#[]⟩] n = Array.replicate n (Value.string ⟨#[]⟩) := by
    apply Array.ext
    · rw [size_madeCells]; simp
    · intro i h1 h2
      simp [madeCells, Nat.mod_one]
  simp only [hmc] at hmk
  clear hmc
  have HSZ : Hid ((Try.prog.info? 9).map (·.size) = some 1) := Lib.hid (by kernel_rfl)
  have hB1 : Bel w (w.alloc (.cells (Array.replicate n (Value.string ⟨#[]⟩)) 9)) := (Bel.rfl_ w).al _
  have HB1 := Lib.hid hB1
  have hc1 := hB1.cell hc
  have HG : Hid ((w.alloc (.cells (Array.replicate n (Value.string ⟨#[]⟩)) 9)).heap[w.heap.size]? = some (.cells (List.replicate n (Value.string ⟨#[]⟩)).toArray 9 (0, 0))) := Lib.hid (by rw [List.toArray_replicate]; exact heap_alloc_new w _)
  have HSRC : Hid (∀ j v, [Value.string u][j]? = some v → (w.alloc (.cells (Array.replicate n (Value.string ⟨#[]⟩)) 9)).cell? ((⟨b, o, none⟩ : Addr).add j) = some v) := Lib.hid (fun j v hv => by
    cases j with
    | zero =>
      have : v = .string u := by simpa using hv.symm
      subst this
      exact hc1
    | succ j => simp at hv)
  have HN : Hid ([Value.string u].length = Nat.min 1 n) := Lib.hid (by simp only [List.length_cons, List.length_nil]; exact (Nat.min_eq_left hn1).symm)
  have HF : Hid (0 + [Value.string u].length ≤ (List.replicate n (Value.string ⟨#[]⟩)).length) := Lib.hid (by rw [List.length_replicate]; simpa using hn1)
  have HO1 : Hid (∀ v ∈ [Value.string u], v.oneCell' = true) := Lib.hid (by simp [Value.oneCell'])
  clear hc hc1 hB1
  go_enter Try.func36, Try.ntmps36
  go_wp2_with fail
  refine (HM.out _).mono ?_
  rintro r w' ⟨rfl, rfl⟩
  go_wp2_with (with_reducible refine wpList_copy_splice rfl (.tmp 31) (.tmp 32) 22 22 rfl 9 Try.underlying22 HSZ.out (some ⟨w'.heap.size, 0, none⟩) (some ⟨b, o, none⟩) n n 1 1 rfl rfl w'.heap.size 0 (List.replicate n (Value.string ⟨#[]⟩)) 9 HG.out [.string u] HN.out (fun _ => ⟨rfl, _, rfl, HSRC.out⟩) HF.out HO1.out w'.heap.size w' HB1.out (Nat.le_refl _) ?_; intro w1 HG1 hB1; have HB2 := Lib.hid hB1; clear hB1)
  have HG2 : Hid (w1.heap[w'.heap.size]? = some (.cells (List.replicate 1 (Value.string u) ++ List.replicate (n - 1) (Value.string ⟨#[]⟩)).toArray 9 (0, 0))) := Lib.hid (by
    rw [HG1.out]
    have := splice_rep (Value.string u) (Value.string ⟨#[]⟩) n 0 1 (by omega)
    simp only [List.replicate_zero, List.nil_append, Nat.sub_zero, Nat.zero_add] at this
    rw [← this]; rfl)
  clear HG1 HG HSRC HN HF HO1 HB1 HM hmk
  generalize hg : w'.heap.size = g at *
  have HGE := Lib.hid hg
  clear hg
  go_loopw [8] (fun i wr => ∃ k : Nat, i = .int .i64 k ∧ 1 ≤ k ∧ k ≤ n ∧ Hid (wr.heap[g]? = some (.cells (List.replicate k (Value.string u) ++ List.replicate (n - k) (Value.string ⟨#[]⟩)).toArray 9 (0, 0))) ∧ Hid (Below g w' wr)) (fun i _ => n - (intOf i).toNat)
  case atStart => exact ⟨1, rfl, by omega, hn1, HG2, HB2⟩
  case round =>
    obtain ⟨k, rfl, hk1, hk2, HGK, HBK⟩ := hrel
    clear HG2 HB2
    by_cases hlt : k < n
    · have hne : ¬ n = k := by omega
      obtain ⟨m, hm⟩ : ∃ m, m = Nat.min k (n - k) := ⟨_, rfl⟩
      have hm2 : m ≤ k ∧ m ≤ n - k ∧ 1 ≤ m := by
        have e : Nat.min k (n - k) = min k (n - k) := rfl
        rw [e] at hm
        omega
      obtain ⟨hm3, hm4, hm5⟩ := hm2
      have HN : Hid ((List.replicate m (Value.string u)).length = Nat.min k (n - k)) := Lib.hid (by rw [List.length_replicate]; exact hm)
      have HGD : Hid (wr.drew.heap[g]? = some (.cells (List.replicate k (Value.string u) ++ List.replicate (n - k) (Value.string ⟨#[]⟩)).toArray 9 (0, 0))) := Lib.hid HGK.out
      have HSRC : Hid (∀ j v, (List.replicate m (Value.string u))[j]? = some v → wr.drew.cell? ((⟨g, 0, none⟩ : Addr).add j) = some v) := Lib.hid (fun j v hv => by
        have hadd : (⟨g, 0, none⟩ : Addr).add j = ⟨g, j, none⟩ := by unfold Addr.add; split <;> simp_all
        rw [hadd, cell_of_row _ g j _ 9 (0, 0) HGD.out]
        obtain ⟨h1, rfl⟩ := List.getElem?_eq_some_iff.1 hv
        rw [List.length_replicate] at h1
        rw [List.getElem?_toArray, List.getElem?_append_left (by rw [List.length_replicate]; omega), List.getElem?_replicate, if_pos (by omega), List.getElem_replicate])
      have HF : Hid (k + (List.replicate m (Value.string u)).length ≤ (List.replicate k (Value.string u) ++ List.replicate (n - k) (Value.string ⟨#[]⟩)).length) := Lib.hid (by simp only [List.length_replicate, List.length_append]; omega)
      have HO1 : Hid (∀ v ∈ List.replicate m (Value.string u), v.oneCell' = true) := Lib.hid (fun v hv => by rw [(List.mem_replicate.1 hv).2]; rfl)
      have HBD : Hid (Below g w' wr.drew) := Lib.hid (Below.drew HBK.out)
      obtain ⟨w2, hcp, HG2, HB2⟩ : ∃ w2, (Builtin.copy_ #[22, 22] 3 #[.slice (some ⟨g, k, none⟩) (n - k) (n - k), .slice (some ⟨g, 0, none⟩) k n]).run Try.prog wr.drew = .ok (.int .i64 m) w2 ∧ Hid (w2.heap[g]? = some (.cells (List.replicate (k + m) (Value.string u) ++ List.replicate (n - (k + m)) (Value.string ⟨#[]⟩)).toArray 9 (0, 0))) ∧ Hid (Below g w' w2) := by
        have h1 := run_copy_row (P := Try.prog) wr.drew 22 22 3 9 g k (n - k) (n - k) ⟨g, 0, none⟩ k n (List.replicate k (Value.string u) ++ List.replicate (n - k) (Value.string ⟨#[]⟩)).toArray 9 (List.replicate m (Value.string u)) Try.underlying22 HSZ.out HGD.out HN.out HSRC.out (by simpa using HF.out) HO1.out
        have h3 := splice_rep (Value.string u) (Value.string ⟨#[]⟩) n k m (by omega)
        refine ⟨wr.drew.setRow g (splice (List.replicate k (Value.string u) ++ List.replicate (n - k) (Value.string ⟨#[]⟩)) k (List.replicate m (Value.string u))).toArray, h1.trans ?_, ?_, below_setRow HBD.out (Nat.le_refl _) _⟩
        · unfold splice
          rw [List.append_assoc, List.length_replicate]
          rfl
        · unfold Hid
          rw [← h3]
          exact setRow_heap wr.drew g _ _ 9 _ HGD.out
      have hwk : IntKind.i64.wrap ((k : Int) + m) = ((k + m : Nat) : Int) := by rw [IntKind.wrap_i64]; omega
      clear HGK HBK HN HSRC HF HO1 HGD HBD
      go_wp2
      go_region
      go_wp2
      go_roundw
      case rel => exact ⟨k + m, by go_num, by omega, by omega, HG2, HB2⟩
      case measure => simp [intOf]; omega
    · have hkn : k = n := by omega
      subst hkn
      go_wp2
      go_ret
      have hgk := HGK.out
      rw [Nat.sub_self, List.replicate_zero, List.append_nil] at hgk
      have hbk := HBK.out
      have hge := HGE.out
      subst hge
      exact ⟨rfl, hgk, hbk⟩

end Go.Proofs.Ytkojeofegoljpaa
