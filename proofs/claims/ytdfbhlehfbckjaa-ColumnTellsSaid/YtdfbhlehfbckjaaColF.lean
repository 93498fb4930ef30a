/- The program's encoding computes what is encoded. Each lemma states its own conditions. -/
import Derived.Test.YtdfbhlehfbckjaaColE
namespace Go.Proofs.Ytdfbhlehfbckjaa
open Go.RowKit

def encErr (l : List Ev) : Int := if 4000 < l.length then 2 else if l.all evSmall = true then 0 else 3

theorem encode_many (v : Value) (l : List Ev) (w : World) (h : Sl evR w v l) (hok : ok64 l.length) (hl : 4000 < l.length) :
    Calls Try.prog 14 #[v] w fun r w' => r = .returned (.tuple #[.string (strOfNums []), .int .i64 2]) ∧ Bel w w' := by
  obtain ⟨A, c, rfl, hc, hm, hA⟩ := h
  unfold ok64 at hok
  clear hA
  go_enter Try.func14, Try.ntmps14
  go_wp2
  go_ret2
  exact ⟨rfl, Bel.rfl_ w⟩

theorem encode_range (v : Value) (l : List Ev) (w : World) (h : Sl evR w v l) (hl : l.length ≤ 4000) (hsm : l.all evSmall = false) :
    Calls Try.prog 14 #[v] w fun r w' => r = .returned (.tuple #[.string (strOfNums []), .int .i64 3]) ∧ Bel w w' := by
  have H := Lib.hid h
  obtain ⟨A, c, rfl, hc, hm, hA⟩ := h
  clear hA
  go_enter Try.func14, Try.ntmps14
  go_wp2_with (go_at_call 29; refine (containsFunc_any _ (.inl rfl) _ l _ H.out (by unfold ok64; omega)).mono ?_; rintro e w1 ⟨rfl, hb1⟩; have HB1 := Lib.hid hb1; clear hb1; rw [hsm])
  go_ret2
  exact ⟨rfl, HB1.out⟩

theorem Wr.keep {w w' : World} {g : Nat} {xs : List Int} (hb : Bel w w') : Wr w g xs → Wr w' g xs := fun ⟨v, h1, h2⟩ => ⟨v, h1.keep hb, hb.own h2⟩
theorem ptr_cell {w : World} {g b : Nat} (h : Blk w g 67 #[.pointer (some ⟨b, 0, none⟩), .pointer (some ⟨b, 0 + 1, none⟩), .pointer (some ⟨b, 0 + 2, none⟩), .pointer (some ⟨b, 0 + 3, none⟩), .pointer (some ⟨b, 0 + 4, none⟩), .pointer (some ⟨b, 0 + 5, none⟩)])
    {k : Nat} (hk : k < 6) : w.cell? ⟨g, k, none⟩ = some (.pointer (some ⟨b, k, none⟩)) := by
  match k, hk with
  | 0, _ | 1, _ | 2, _ | 3, _ | 4, _ | 5, _ => exact h.cell rfl
theorem col_cell {w : World} {b : Nat} {t : TypeId} {e : Ev} (h : Blk w b t #[.int .i64 e.kind, .int .i64 e.frame, .int .i64 e.at_, .int .i64 e.var, .int .i64 e.index, .int .i64 e.value])
    {k : Nat} (hk : k < 6) : w.cell? ⟨b, k, none⟩ = some (.int .i64 (colv e k)) := by
  match k, hk with
  | 0, _ | 1, _ | 2, _ | 3, _ | 4, _ | 5, _ => exact h.cell rfl
theorem conv_own {w : World} {base : Nat} {v : Value} {xs : List Int} (h : w.ownsRow base 5 1 v xs.length (xs.map (Value.int .u8))) :
    (convert 63 9 v).run Try.prog w = .ok (.string (strOfNums xs)) w := by
  rcases h.2 with ⟨rfl, h0⟩ | ⟨g, cap, cur, rfl, _, hg, hnc, hcm, hcs, ht⟩
  · obtain rfl : xs = [] := List.eq_nil_of_length_eq_zero h0
    exact run_convert_bytes_nil (P := Try.prog) w 63 5 Try.underlying63 Try.underlying5 0 0 _ Try.underlying9
  · refine run_convert_bytes_arg (P := Try.prog) w 63 5 Try.underlying63 Try.underlying5 g 0 _ cap xs rfl ?_ _ Try.underlying9
    intro i hi
    rw [cell_of_row w g _ cur 5 (0, 0) hg, Nat.zero_add]
    have h1 : (cur.toList.take (xs.length * 1))[i]? = (xs.map (Value.int .u8))[i]? := by rw [ht]
    rw [List.getElem?_take, if_pos (by omega), List.getElem?_map, List.getElem?_eq_getElem hi, Array.getElem?_toList] at h1
    rw [h1, List.getD_eq_getElem?_getD, List.getElem?_eq_getElem hi]
    rfl

set_option maxRecDepth 20000 in
set_option maxHeartbeats 1000000 in
theorem encode_ok (v : Value) (l : List Ev) (w : World) (h : Sl evR w v l) (hl : l.length ≤ 4000) (hsm : l.all evSmall = true) :
    Calls Try.prog 14 #[v] w fun r w' => r = .returned (.tuple #[.string (strOfNums (encCols l 6)), .int .i64 0]) ∧ Bel w w' := by
  have H := Lib.hid h
  obtain ⟨A, c, rfl, hc, hm, hA⟩ := h
  have HA := Lib.hid hA; clear hA
  have HSM := Lib.hid hsm
  go_enter Try.func14, Try.ntmps14
  go_wp2_with fail
  refine (containsFunc_any _ (.inl rfl) _ l _ H.out (by unfold ok64; omega)).mono ?_
  rintro e w1 ⟨rfl, hb1⟩
  have HB1 := Lib.hid hb1; clear hb1
  rw [hsm]
  clear hsm H
  have HW0 : Hid (Wr (w1.alloc (.cells #[.slice none 0 0] 65)) w1.heap.size []) := Lib.hid ⟨_, Blk.new _ _ _, World.ownsRow_nil _ _ _ _⟩
  go_wp2_with fail
  refine (wnat_any w1.heap.size [] l.length (by omega) (by simp) _ HW0.out).mono ?_
  rintro e w2 ⟨⟨v2, rfl⟩, hw2, hb2⟩
  have HB2 : Hid (Bel w w2) := Lib.hid (Below.trans (HB1.out.al _) (Below.mono hb2 HB1.out.size))
  have HG : Hid (w.heap.size ≤ w1.heap.size) := Lib.hid HB1.out.size
  have HW2 : Hid (Wr w2 w1.heap.size (encCols l 0)) := Lib.hid hw2
  generalize w1.heap.size = g at HG HW2 ⊢
  clear hw2 hb2 HW0 HB1
  go_wp2_with fail
  go_loopw [23] (fun i wr => ∃ k : Nat, k ≤ 6 ∧ i = .int .i64 k ∧ Hid (Wr wr g (encCols l k)) ∧ Bel w wr) (fun i _ => 6 - (intOf i).toNat)
  case atStart => exact ⟨0, by omega, rfl, HW2, HB2.out⟩
  case round =>
    obtain ⟨k, hk, rfl, hw, hb⟩ := hrel
    have HB := Lib.hid hb; clear hb HB2 HW2
    by_cases hk6 : k < 6
    · have hdk : decide ((k : Int) < 6) = true := decide_eq_true (by omega)
      have HCS := Lib.hid (col_small HSM.out hk6)
      have HPL := Lib.hid (fun j => part_len hl HSM.out hk6 j)
      go_wp2
      go_loopw [6, 28] (fun v i wr => ∃ j : Nat, j ≤ l.length ∧ i = .int .i64 j ∧ v = .int .i64 (wasAt (col l k) j) ∧ Hid (Wr wr g (encCols l k ++ encFrom 0 ((col l k).take j))) ∧ Bel w wr) (fun _ i _ => l.length - (intOf i).toNat)
      case atStart => exact ⟨0, by omega, rfl, rfl, (by simpa [encFrom] using hw), HB.out⟩
      case round =>
        obtain ⟨j, hj, rfl, rfl, hw, hb⟩ := hrel
        by_cases hlt : j < l.length
        · obtain ⟨e, he⟩ : ∃ e, l[j]? = some e := ⟨_, List.getElem?_eq_getElem hlt⟩
          obtain ⟨bb, bo, rfl, hA⟩ := HA.out (by omega)
          obtain ⟨x0, x1, x2, x3, x4, x5⟩ := EvAt.keepB hb (evR.cells hA he)
          have hce : (col l k)[j]? = some (colv e k) := by simp [col, he]
          have HE := Lib.hid (encFrom_succ hce)
          have HWA := Lib.hid (wasAt_succ hce)
          have HD := Lib.hid (diff_ok (HCS.out _ (List.mem_of_getElem? hce)) (wasAt_small HCS.out j))
          have HBB := Lib.hid hb; clear hb hA he HA hce
          have hd1 := HD.out.1
          have hd2 := HD.out.2
          go_wp2_with fail
          refine (columns_any wr.heap.size 0 _).mono ?_
          rintro e' w3 ⟨rfl, hb3, hblk⟩
          have hs : (wr.alloc (.cells #[.int .i64 e.kind, .int .i64 e.frame, .int .i64 e.at_, .int .i64 e.var, .int .i64 e.index, .int .i64 e.value] 58)).heap.size = wr.heap.size + 1 := by simp
          rw [hs] at hblk ⊢
          have y0 := ptr_cell hblk hk6
          have z0 := col_cell ((Blk.new wr 58 #[.int .i64 e.kind, .int .i64 e.frame, .int .i64 e.at_, .int .i64 e.var, .int .i64 e.index, .int .i64 e.value]).keep hb3) hk6
          have hb3' : Bel wr w3 := ((Bel.rfl_ wr).al _).tr hb3
          have HW3 := Lib.hid (Wr.keep hb3' hw.out)
          have HBB := Lib.hid (HBB.out.tr hb3')
          clear hs hblk hb3 hb3' hw
          go_wp2_with fail
          refine (wnum_any g _ (colv e k - wasAt (col l k) j) HD.out (by have := HPL.out j; omega) _ HW3.out).mono ?_
          rintro e' w4 ⟨⟨v4, rfl⟩, hw4, hb4⟩
          have HW4 := Lib.hid hw4
          have HB4 : Hid (Bel w w4) := Lib.hid (Below.trans HBB.out (Below.mono hb4 HG.out))
          clear hw4 hb4 HW3 y0 z0
          go_wp2
          go_roundw
          case rel => exact ⟨j + 1, by omega, by go_num, by rw [HWA.out], (by unfold Hid; rw [HE.out, ← List.append_assoc]; exact HW4.out), HB4.out⟩
          case measure => simp [intOf]; omega
        · have hjl : (col l k).length ≤ j := by simp [col]; omega
          go_wp2
          go_roundw
          case rel => exact ⟨k + 1, by omega, by go_num, (by rw [List.take_of_length_le hjl] at hw; exact hw), hb⟩
          case measure => simp [intOf]; omega
    · obtain rfl : k = 6 := by omega
      obtain ⟨u, hB, hO⟩ := hw
      have x0 : wr.cell? ⟨g, 0, none⟩ = some u := hB.cell rfl
      have hcv := conv_own hO
      clear hB hO
      go_wp2
      go_ret2
      exact ⟨rfl, HB.out⟩

def encStr (l : List Ev) : ByteArray := if encErr l = 0 then strOfNums (encCols l 6) else strOfNums []
theorem encode_any (v : Value) (l : List Ev) (w : World) (h : Sl evR w v l) (hok : ok64 l.length) :
    Calls Try.prog 14 #[v] w fun r w' => r = .returned (.tuple #[.string (encStr l), .int .i64 (encErr l)]) ∧ Bel w w' := by
  by_cases hl : 4000 < l.length
  · have he : encErr l = 2 := by unfold encErr; rw [if_pos hl]
    unfold encStr
    rw [he]
    exact encode_many v l w h hok hl
  · cases hsm : l.all evSmall with
    | true =>
      have he : encErr l = 0 := by unfold encErr; rw [if_neg hl, if_pos hsm]
      unfold encStr
      rw [he]
      exact encode_ok v l w h (by omega) hsm
    | false =>
      have he : encErr l = 3 := by unfold encErr; rw [if_neg hl, if_neg (by simp [hsm])]
      unfold encStr
      rw [he]
      exact encode_range v l w h (by omega) hsm

end Go.Proofs.Ytdfbhlehfbckjaa
