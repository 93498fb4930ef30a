/- New disks, the document's: walked. Each lemma states its own conditions. -/
import Derived.Test.YtkojeofegoljpaaDskL
namespace Go.Proofs.Ytkojeofegoljpaa
open Go.RowKit

def reps (k : Nat) (u : ByteArray) : List Value := List.replicate k (Value.string u)
theorem reps_snoc (k : Nat) (u : ByteArray) : reps k u ++ [Value.string u] = reps (k + 1) u := by unfold reps; rw [List.replicate_succ']

theorem Blk.far2 {w : World} {S g : Nat} {t : TypeId} {cs : Array Value} (h : Blk w S t cs) (hne : S ≠ g) (i : Nat) (u : Value) : Blk (w.setCell ⟨g, i, none⟩ u) S t cs := (heap_setCell_other w ⟨g, i, none⟩ S u hne).trans h
set_option maxRecDepth 20000 in
set_option maxHeartbeats 1000000 in
theorem newDisk_any (n : Nat) (w : World) (hn1 : 1 ≤ n) (hn2 : n ≤ 600) : Calls Try.prog 13 #[.int .i64 n] w fun r w' => ∃ val', r = .returned val' ∧ DkV w' ⟨List.replicate n (sec 0), []⟩ val' ∧ Bel w w' := by
  have hS : Hid (sec 0 = strOfNums (rep 32 0)) := Lib.hid rfl
  generalize sec 0 = S at *
  have hr : Try.f13.results = #[.cell 2 25] := rfl
  have HRR := Lib.hid (Blk.new w 25 #[.slice none 0 0, .slice none 0 0])
  have hC := conv1
  have hSZ := strOfNums_size
  go_enter Try.func13, Try.ntmps13
  go_wp2
  go_loopw [3, 4] (fun v i wr => ∃ (k : Nat), i = .int .i64 k ∧ v = .string (strOfNums (rep k 0)) ∧ k ≤ 32 ∧ Hid (Bel (w.alloc (.cells #[.slice none 0 0, .slice none 0 0] 25)) wr)) (fun _ i _ => 32 - (intOf i).toNat)
  case atStart => exact ⟨0, rfl, rfl, by omega, Bel.rfl_ _⟩
  case round =>
    obtain ⟨k, rfl, rfl, hk, HB⟩ := hrel
    have hl : (rep k 0).length = k := rep_length k 0
    by_cases hlt : k < 32
    · have HB' := Lib.hid (HB.out.al (.cells #[.int .u8 0] 5))
      go_wp2
      go_roundw
      case rel => exact ⟨k + 1, by go_num, by rw [str_app, rep_snoc], by omega, HB'⟩
      case measure => simp [intOf]; omega
    · have hk32 : k = 32 := by omega
      have hkS : strOfNums (rep k 0) = S := by rw [hk32, hS.out]
      rw [hkS]
      clear hk32 hkS
      clear hC hSZ hl hS
      have hRR := HRR.out.keep HB.out
      have HR2 := Lib.hid (hRR.keep ((Bel.rfl_ wr).al (.cells #[.slice none 0 0, .slice none 0 0] 25)))
      have HS2 := Lib.hid (Blk.new wr 25 #[.slice none 0 0, .slice none 0 0])
      have HB2 := Lib.hid (((Bel.rfl_ w).al (.cells #[.slice none 0 0, .slice none 0 0] 25)).tr HB.out)
      have HGE : Hid (w.heap.size < wr.heap.size) := Lib.hid (by have := HB.out.size; rw [World.size_alloc] at this; omega)
      clear hRR HB HRR
      generalize wr = W1 at *
      go_wp2
      go_loopw [6] (fun i wr => ∃ (k : Nat) (v : Value), i = .int .i64 k ∧ k ≤ n ∧ Hid (wr.ownsRow (W1.heap.size + 1) 9 1 v k (reps k S)) ∧ Hid (Blk wr w.heap.size 25 #[.slice none 0 0, .slice none 0 0]) ∧ Hid (Blk wr W1.heap.size 25 #[v, .slice none 0 0]) ∧ Hid (Bel w wr)) (fun i _ => n - (intOf i).toNat)
      case atStart => exact ⟨0, .slice none 0 0, rfl, by omega, World.ownsRow_nil _ _ _ _, HR2, HS2, HB2.out.al _⟩
      case round =>
        obtain ⟨k, v, rfl, hk, HO, HR, HS, HB⟩ := hrel
        clear HR2 HS2 HB2
        by_cases hlt : k < n
        · have s0 : wr.cell? ⟨W1.heap.size, 0, none⟩ = some v := HS.out.cell (i := 0) rfl
          have e0 := HS.out.frozen 0
          have HSZ : Hid (W1.heap.size + 1 ≤ wr.heap.size) := Lib.hid (HS.out.lt)
          go_wp2_with (at_builtin; go_loud (refine wpl_app wr rfl (.tmp 21) (.tmp 23) 22 rfl (W1.heap.size + 1) elStr v k _ rfl HO.out [.string S] rfl rfl (by simp [Value.oneCell']) (by simp only [maxLen]; omega) (by omega) HSZ.out ?_); intro g cap w4 hown hg _; have HO4 := Lib.hid hown; have HB4 := Lib.hid (Below.ofGrown HB.out HO.out hg (Nat.le_trans (Nat.le_of_lt HGE.out) (Nat.le_succ _)) HB.out.size); have HR4 := Lib.hid (HR.out.grown hg (HR.out.ne_own HO.out (by decide))); have HS4 := Lib.hid (HS.out.grown hg (HS.out.ne_own HO.out (by decide))); have s4 := HS4.out.cell (i := 0) rfl; have e4 := HS4.out.frozen 0; clear hown hg)
          go_roundw
          case rel => exact ⟨k + 1, .slice (some ⟨g, 0, none⟩) (k + 1) cap, by go_num, by omega, (by unfold Hid; rw [← reps_snoc]; exact own_aside HO4.out HS4.out (by decide) _ _), (HR4.out.far2 (Nat.ne_of_lt HGE.out) _ _), HS4.out.set_ 0 (.slice (some ⟨g, 0, none⟩) (k + 1) cap), HB4.out.setCell (p := ⟨W1.heap.size, 0, none⟩) (Nat.le_of_lt HGE.out) _⟩
          case measure => simp [intOf]; omega
        · obtain rfl : k = n := by omega
          obtain ⟨g, cap, rfl⟩ := ownsRow_some HO.out hn1
          have d0 := HR.out.cell (i := 0) rfl
          have d1 := HR.out.cell (i := 1) rfl
          have e0 := HR.out.frozen 0
          have e1 := HR.out.frozen 1
          have s0 : wr.cell? ⟨W1.heap.size, 0, none⟩ = some (.slice (some ⟨g, 0, none⟩) k cap) := HS.out.cell (i := 0) rfl
          have s1 : wr.cell? ⟨W1.heap.size, 1, none⟩ = some (.slice none 0 0) := HS.out.cell (i := 1) rfl
          go_wp2
          have hs5 := two_set (a := .slice (some ⟨g, 0, none⟩) k cap) (b := .slice none 0 0) HR.out
          have z0 := hs5.cell (i := 0) rfl
          have z1 := hs5.cell (i := 1) rfl
          have ho2 := own_aside (own_aside HO.out HR.out (by decide) 0 (.slice (some ⟨g, 0, none⟩) k cap)) (HR.out.set_ 0 (.slice (some ⟨g, 0, none⟩) k cap)) (by decide) 1 (.slice none 0 0)
          have hbl := (HB.out.setCell (p := ⟨w.heap.size, 0, none⟩) (by dsimp only; omega) (.slice (some ⟨g, 0, none⟩) k cap)).setCell (p := ⟨w.heap.size, 1, none⟩) (by dsimp only; omega) (.slice none 0 0)
          refine bodyPost_ret (v := .agg #[.slice (some ⟨g, 0, none⟩) k cap, .slice none 0 0]) (by simp [results, z0, z1, go_sem]) rfl ⟨_, rfl, ⟨some ⟨g, 0, none⟩, cap, none, 0, by simp, ?_, Sl.nil_ _ _⟩, hbl⟩
          have e : reps k S = (List.replicate k S).map Value.string := by unfold reps; rw [List.map_replicate]
          rw [e] at ho2
          have := Sl.own_str ho2 (by simp)
          simpa using this

end Go.Proofs.Ytkojeofegoljpaa
