/- A sector read: walked. Each lemma states its own conditions. -/
import Derived.Test.YtkojeofegoljpaaLogC
namespace Go.Proofs.Ytkojeofegoljpaa
open Go.RowKit

theorem elIntL : Elem Try.prog 54 3 1 8 := Elem.mk_ (z := .int .i64 0) Try.underlying54 (by kernel_rfl) rfl (by omega)
theorem nums_len (s : ByteArray) : (nums s).length = 7 := rfl
theorem nums_take {s : ByteArray} {k : Nat} (hk : k < 7) : (nums s).take (k + 1) = (nums s).take k ++ [numAt s k] := by
  rw [List.take_add_one]
  congr 1
  simp [nums, hk]

set_option maxRecDepth 20000 in
set_option maxHeartbeats 1000000 in
theorem lread_any (s : ByteArray) (kind : Int) (w : World) (hs : s.size = 32) :
    Calls Try.prog 72 #[.string s, .int .i64 kind] w fun r w' => (∃ v, r = .returned (.tuple #[v, .bool (decide (isSec s kind))]) ∧ (isSec s kind → Sl intR w' v ((nums s).drop 1) ∧ ∃ b c, v = .slice (some ⟨b, 1, none⟩) 6 c ∧ w.heap.size ≤ b)) ∧ Bel w w' := by
  have HN := Lib.hid (fun k W hk => number_any s k W hs hk)
  have HS := Lib.hid (fun s hs W => sum_any s W hs)
  have HZ := Lib.hid hs
  clear hs
  go_enter Try.func72, Try.ntmps72
  go_wp2
  go_loopw [6, 9] (fun v t wr => ∃ k : Nat, k ≤ 7 ∧ t = .int .i64 k ∧ wr.ownsRow w.heap.size 3 1 v k (((nums s).take k).map (Value.int .i64)) ∧ Hid (Bel w wr)) (fun _ t _ => 7 - (intOf t).toNat)
  case atStart => exact ⟨0, by omega, rfl, ⟨by simp, .inl ⟨rfl, rfl⟩⟩, Lib.hid (Bel.rfl_ w)⟩
  case round =>
    obtain ⟨k, hk, rfl, ho, HB⟩ := hrel
    have HO := Lib.hid ho
    clear ho
    by_cases h7 : k < 7
    · have hd : decide ((k : Int) < 7) = true := decide_eq_true (by omega)
      go_wp2_with fail
      refine (HN.out k _ (by omega)).mono ?_
      rintro r w2 ⟨rfl, hb⟩
      have HO2 := Lib.hid (hb.own HO.out)
      have HB2 := Lib.hid (HB.out.tr hb)
      have hz2 := HB2.out.size
      clear hb HO HB
      go_wp2_with (at_builtin; refine wpl_app w2 rfl (.tmp 12) (.tmp 16) 54 rfl w.heap.size elIntL u6 k _ rfl HO2.out [.int .i64 (numAt s k)] rfl rfl (by simp [Value.oneCell']) (by simp only [maxLen]; omega) (by omega) hz2 ?_; intro g2 cap w3 hown3 hg3 _; have HO3 := Lib.hid hown3; have HG3 := Lib.hid hg3; clear hown3 hg3)
      refine ⟨⟨k + 1, by omega, rfl, ?_, Lib.hid (Below.ofGrown HB2.out HO2.out HG3.out (Nat.le_refl _) hz2)⟩, by simp [intOf]; omega⟩
      rw [nums_take h7, List.map_append]
      exact HO3.out
    · obtain rfl : k = 7 := by omega
      have hn7 : (nums s).take 7 = nums s := rfl
      rw [hn7] at HO
      obtain ⟨g, cap, rfl⟩ := ownsRow_some HO.out (by omega)
      have HG := Lib.hid ((HO.out.lt g rfl).1)
      obtain ⟨A, c, he, hlc, hcm, hA⟩ := Sl.own_int HO.out (nums_len s).symm
      have h1 : cap = c := by
        simp only [Value.slice.injEq] at he
        exact he.2.2
      subst h1
      have hA1 : A = some ⟨g, 0, none⟩ := by
        simp only [Value.slice.injEq] at he
        exact he.1.symm
      subst hA1
      have HC := Lib.hid (fun A' C' hA' hC' => Sl.cut (r := intR) (A' := A') (C' := C') (i := 1) (j := 7) hlc hcm hA (by rw [nums_len]; omega) hA' hC')
      have c0 := (own_cell HO.out (i := 0) (u := .int .i64 (numAt s 0)) rfl).1
      rw [nums_len] at hlc
      have hc1 : ¬ cap = 1 := by omega
      clear he hA hcm
      have h28 : 28 ≤ s.size := by have := HZ.out; omega
      by_cases hk : numAt s 0 = kind
      · have HE : Hid (s.extract 0 28 = beg28 s) := Lib.hid rfl
        have HK := Lib.hid hk
        have HSZ : Hid ((beg28 s).size ≤ 1000000) := Lib.hid (by rw [beg28, ByteArray.size_extract]; omega)
        go_wp2_with fail
        rw [HE.out]
        refine (HS.out (beg28 s) HSZ.out _).mono ?_
        rintro r w3 ⟨rfl, rfl⟩
        clear HS
        obtain ⟨hs0, hs1⟩ := sumOf_in (beg28 s)
        obtain ⟨z, hz⟩ : ∃ z, wrap32 (sumOf (beg28 s)) = z := ⟨_, rfl⟩
        have hz1 : -2147483648 ≤ z ∧ z ≤ 2147483647 := by rw [← hz]; unfold wrap32; omega
        obtain ⟨hz2, hz3⟩ := hz1
        have HZ7 := Lib.hid (show isSec s kind ↔ z = numAt s 7 by rw [← hz]; exact ⟨fun h => h.2, fun h => ⟨HK.out, h⟩⟩)
        have HN7 : Hid (∀ W, Calls Try.prog 85 #[.string s, .int .i64 7] W fun r w' => r = .returned (.int .i64 (numAt s 7)) ∧ Bel W w') := Lib.hid (fun W => HN.out 7 W (by omega))
        clear HN HK
        generalize numAt s 7 = y at *
        go_wp2_with fail
        refine (HN7.out _).mono ?_
        rintro r w4 ⟨rfl, hb⟩
        have HB4 := Lib.hid (HB.out.tr hb)
        have HSL := Lib.hid (fun A' C' hA' hC' => (HC.out A' C' hA' hC').keep hb)
        clear hb HC HB HN7
        by_cases hq : z = y
        · subst hq
          go_wp2
          go_ret2
          exact ⟨⟨_, by rw [decide_eq_true (HZ7.out.2 (by first | trivial | rfl))]; rfl, fun _ => ⟨HSL.out _ _ (by rw [if_neg hc1]; rfl) rfl, _, _, rfl, HG.out⟩⟩, HB4.out⟩
        · have hbq : (z == y) = false := by simpa using hq
          have HI := Lib.hid (show ¬ isSec s kind from fun h => hq (HZ7.out.1 h))
          clear hq
          go_wp2
          go_ret2
          exact ⟨⟨_, by rw [decide_eq_false HI.out]; rfl, fun h => absurd h HI.out⟩, HB4.out⟩
      · have hbn : (numAt s 0 != kind) = true := by simpa using hk
        have HI := Lib.hid (show ¬ isSec s kind from fun h => hk h.1)
        clear hk
        go_wp2
        go_ret2
        exact ⟨⟨_, by rw [decide_eq_false HI.out]; rfl, fun h => absurd h HI.out⟩, HB.out⟩

end Go.Proofs.Ytkojeofegoljpaa
