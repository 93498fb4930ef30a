/- A sector made: walked. Each lemma states its own conditions. -/
import Derived.Test.YtkojeofegoljpaaLogB
namespace Go.Proofs.Ytkojeofegoljpaa
open Go.RowKit

theorem Mk.cells {w : World} {g : Nat} {xs : List Int} (h : Mk w g xs) : ∃ A c, w.cell? ⟨g, 0, none⟩ = some (.slice A xs.length c) ∧ w.ownsRow (g + 1) 5 1 (.slice A xs.length c) xs.length (xs.map (Value.int .u8)) := by
  obtain ⟨v, hB, hO⟩ := h
  have hO' := hO
  rcases hO.2 with ⟨rfl, h0⟩ | ⟨g2, cap, cur, rfl, _⟩
  · exact ⟨none, 0, by rw [h0]; exact hB.cell rfl, by rw [h0] at hO' ⊢; exact hO'⟩
  · exact ⟨_, cap, hB.cell rfl, hO'⟩

/-- how long what a maker holds is -/
def mkLen (w : World) (g : Nat) : Nat := match w.cell? ⟨g, 0, none⟩ with
  | some (.slice _ n _) => n
  | _ => 0
theorem mkLen_eq {w : World} {g n c : Nat} {A : Option Addr} (h : w.cell? ⟨g, 0, none⟩ = some (.slice A n c)) : mkLen w g = n := by rw [mkLen, h]
theorem Mk.len {w : World} {g : Nat} {xs : List Int} (h : Mk w g xs) : mkLen w g = xs.length := by
  obtain ⟨A, c, h1, _⟩ := h.cells
  exact mkLen_eq h1
theorem Mk.keep {w w' : World} {g : Nat} {xs : List Int} (hb : Bel w w') (h : Mk w g xs) : Mk w' g xs := by
  obtain ⟨v, h1, h2⟩ := h
  exact ⟨v, h1.keep hb, hb.own h2⟩
theorem Blk.one_new (w : World) (o : Obj) (t : TypeId) (cs : Array Value) : Blk ((w.alloc o).alloc (.cells cs t)) (w.heap.size + 1) t cs := by
  have := Blk.new (w.alloc o) t cs
  rwa [World.size_alloc] at this

set_option maxRecDepth 20000 in
set_option maxHeartbeats 1000000 in
theorem lsector_any (b : Nat) (kind : Int) (l : List Int) (hx : l.length ≤ 6) (w : World) (hl : Blk w b 3 (ints l)) :
    Calls Try.prog 52 #[.int .i64 kind, .slice (some ⟨b, 0, none⟩) l.length l.length] w fun r w' => r = .returned (.string (secS kind l)) ∧ Bel w w' := by
  have HP := Lib.hid (fun g b xs l hx W h h1 h2 => mput_any g b xs l hx W h h1 h2)
  have HS := Lib.hid (fun s hs W => sum_any s W hs)
  have HX := Lib.hid hx
  have HL := Lib.hid hl
  have h0 : Mk (w.alloc (.cells #[.slice none 0 0] 121)) w.heap.size [] := ⟨_, Blk.new _ _ _, by simp, .inl ⟨rfl, rfl⟩⟩
  have hal := (Bel.rfl_ (w.alloc (.cells #[.slice none 0 0] 121))).al (.cells #[.int .i64 kind] 3)
  have HB := Lib.hid (((Bel.rfl_ w).al (.cells #[.slice none 0 0] 121)).tr hal)
  have HM := Lib.hid (h0.keep hal)
  have hlt : b < w.heap.size := hl.lt
  have HA := Lib.hid (Blk.one_new w (.cells #[.slice none 0 0] 121) 3 #[.int .i64 kind])
  clear h0 hal hl
  go_enter Try.func52, Try.ntmps52
  go_wp2_with fail
  refine (HP.out w.heap.size (w.heap.size + 1) [] [kind] (by simp) _ HM.out HA.out (by omega)).mono ?_
  rintro r w1 ⟨⟨v, rfl⟩, hm, hb⟩
  replace HM := Lib.hid hm
  replace HB := Lib.hid (HB.out.trans hb)
  clear hm hb HA
  go_wp2_with fail
  refine (HP.out w.heap.size b ([] ++ words [kind]) l (by have := HX.out; simp [words_len]; omega) _ HM.out (HL.out.keep HB.out) (by omega)).mono ?_
  rintro r w2 ⟨⟨v, rfl⟩, hm, hb⟩
  replace HM : Hid (Mk w2 w.heap.size (words (kind :: l ++ List.replicate 0 0))) := Lib.hid (by simpa [words_cons, words] using hm)
  replace HB := Lib.hid (HB.out.trans hb)
  clear hm hb
  go_wp2
  go_loopw [] (fun wr => ∃ k : Nat, k ≤ 6 - l.length ∧ Hid (Mk wr w.heap.size (words (kind :: l ++ List.replicate k 0))) ∧ Hid (Bel w wr)) (fun wr => 28 - mkLen wr w.heap.size)
  case atStart => exact ⟨0, by omega, HM, HB⟩
  case round =>
    clear HM HB HL
    obtain ⟨k, hk, HM, HB⟩ := hrel
    obtain ⟨n, hn⟩ : ∃ n, (words (kind :: l ++ List.replicate k 0)).length = n := ⟨_, rfl⟩
    have hn2 : n = 4 * (1 + l.length + k) := by rw [← hn, words_len]; simp; omega
    obtain ⟨A, c, hc, ho⟩ := HM.out.cells
    rw [hn] at hc
    by_cases h28 : n < 28
    · have HZ := Lib.hid (Blk.new wr 3 #[.int .i64 0])
      have hal := (Bel.rfl_ wr).al (.cells #[.int .i64 0] 3)
      replace HM := Lib.hid (HM.out.keep hal)
      have hlt2 : w.heap.size < wr.heap.size := lt_of_cell hc
      have HLN := Lib.hid ((mkLen_eq hc).trans rfl)
      have HBA := Lib.hid (HB.out.tr hal)
      have HN := Lib.hid hn
      have HN2 := Lib.hid hn2
      clear hal ho hn hn2
      go_wp2_with fail
      refine (HP.out w.heap.size wr.heap.size (words (kind :: l ++ List.replicate k 0)) [0] (by rw [HN.out]; simp; omega) _ HM.out HZ.out (by omega)).mono ?_
      rintro r w4 ⟨⟨v, rfl⟩, hm, hb⟩
      have HM4 := Lib.hid hm
      have HB4 := Lib.hid (HBA.out.trans hb)
      clear hm hb
      go_wp2
      have hm4 := HM4.out.len
      have hw : words (kind :: l ++ List.replicate k 0) ++ words [0] = words (kind :: l ++ List.replicate (k + 1) 0) := by
        rw [← words_app, List.append_assoc, ← List.replicate_succ']
      rw [hw] at HM4
      refine ⟨⟨k + 1, by have := HN2.out; omega, HM4, HB4⟩, ?_⟩
      rw [hm4, List.length_append, HN.out, HLN.out]
      simp only [words, List.flatMap_cons, List.flatMap_nil, List.append_nil, word_len]
      omega
    · obtain rfl : k = 6 - l.length := by omega
      have hw : words (kind :: l ++ List.replicate (6 - l.length) 0) = secHead kind l := by
        rw [secHead, pad, List.length_cons, show 7 - (l.length + 1) = 6 - l.length by omega]
      obtain rfl : n = 28 := by omega
      rw [hw] at hn ho HM
      have hcv := conv_own ho
      rw [hn] at hcv
      have HN := Lib.hid hn
      clear hn hn2 ho hw h28
      have hlt2 : w.heap.size < wr.heap.size := lt_of_cell hc
      go_wp2_with fail
      refine (HS.out _ (by rw [strOfNums_size, HN.out]; omega) _).mono ?_
      rintro r w3 ⟨rfl, rfl⟩
      have HZ := Lib.hid (Blk.new w3 3 #[.int .i64 (sumOf (strOfNums (secHead kind l)))])
      have hal := (Bel.rfl_ w3).al (.cells #[.int .i64 (sumOf (strOfNums (secHead kind l)))] 3)
      replace HM := Lib.hid (HM.out.keep hal)
      replace HB := Lib.hid (HB.out.tr hal)
      clear hal hcv hc
      go_wp2_with fail
      refine (HP.out w.heap.size w3.heap.size (secHead kind l) [sumOf (strOfNums (secHead kind l))] (by rw [HN.out]; simp) _ HM.out HZ.out (by omega)).mono ?_
      rintro r w4 ⟨⟨v2, rfl⟩, hm, hb⟩
      have he : secHead kind l ++ words [sumOf (strOfNums (secHead kind l))] = secB kind l := by simp [words, secB]
      rw [he] at hm
      obtain ⟨A4, c4, hc4, ho4⟩ := hm.cells
      have hcv := conv_own ho4
      have HB4 := Lib.hid (HB.out.trans hb)
      clear hm hb ho4 he
      generalize (secB kind l).length = n4 at *
      go_wp2
      go_ret
      exact ⟨rfl, HB4.out⟩

end Go.Proofs.Ytkojeofegoljpaa
