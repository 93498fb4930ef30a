/- What is encoded, in plain words; the document's encoding computes it. Each lemma states its own conditions. -/
import Derived.Test.YtdfbhlehfbckjaaColD
namespace Go.Proofs.Ytdfbhlehfbckjaa
open Go.RowKit

def encFrom (was : Int) : List Int → List Int
  | [] => []
  | x :: xs => natB (zig (x - was)) ++ encFrom x xs
def wasAt (xs : List Int) (k : Nat) : Int := ((xs.take k).getLast?).getD 0
def col (l : List Ev) (c : Nat) : List Int := l.map fun e => colv e c
def encCols (l : List Ev) : Nat → List Int
  | 0 => natB l.length
  | c + 1 => encCols l c ++ encFrom 0 (col l c)

theorem encFrom_snoc (x : Int) : ∀ (was : Int) (ys : List Int), encFrom was (ys ++ [x]) = encFrom was ys ++ natB (zig (x - ys.getLast?.getD was))
  | was, [] => by simp [encFrom]
  | was, y :: ys => by
    rw [List.cons_append, encFrom, encFrom, encFrom_snoc x y ys, List.append_assoc]
    cases ys with
    | nil => rfl
    | cons z zs => rw [List.getLast?_cons_cons]; simp [List.getLast?_cons]
theorem encFrom_succ {xs : List Int} {k : Nat} {x : Int} (h : xs[k]? = some x) : encFrom 0 (xs.take (k + 1)) = encFrom 0 (xs.take k) ++ natB (zig (x - wasAt xs k)) := by
  obtain ⟨hk, rfl⟩ := List.getElem?_eq_some_iff.1 h
  rw [List.take_succ_eq_append_getElem hk, encFrom_snoc]
  rfl
theorem wasAt_succ {xs : List Int} {k : Nat} {x : Int} (h : xs[k]? = some x) : wasAt xs (k + 1) = x := by
  obtain ⟨hk, rfl⟩ := List.getElem?_eq_some_iff.1 h
  unfold wasAt
  rw [List.take_succ_eq_append_getElem hk, List.getLast?_append]
  rfl
theorem wasAt_zero (xs : List Int) : wasAt xs 0 = 0 := rfl
theorem evSmall_colv {e : Ev} (h : evSmall e = true) {c : Nat} (hc : c < 6) : isN (colv e c) = true := by
  simp only [evSmall, Bool.and_eq_true] at h
  obtain ⟨⟨⟨⟨⟨h0, h1⟩, h2⟩, h3⟩, h4⟩, h5⟩ := h
  match c, hc with
  | 0, _ => exact h0
  | 1, _ => exact h1
  | 2, _ => exact h2
  | 3, _ => exact h3
  | 4, _ => exact h4
  | 5, _ => exact h5
theorem col_small {l : List Ev} (h : l.all evSmall = true) {c : Nat} (hc : c < 6) : ∀ x ∈ col l c, isN x = true := by
  intro x hx
  obtain ⟨e, he, rfl⟩ := List.mem_map.1 hx
  exact evSmall_colv (List.all_eq_true.1 h e he) hc
theorem wasAt_small {xs : List Int} (h : ∀ x ∈ xs, isN x = true) (k : Nat) : isN (wasAt xs k) = true := by
  unfold wasAt
  cases hl : (xs.take k).getLast? with
  | none => rfl
  | some x => exact h x (List.mem_of_mem_take (List.mem_of_getLast? hl))
theorem diff_ok {x y : Int} (hx : isN x = true) (hy : isN y = true) : -2305843009213693952 < x - y ∧ x - y < 2305843009213693952 := by
  rw [isN_iff] at hx hy
  omega
theorem encFrom_len : ∀ (was : Int) (xs : List Int), isN was = true → (∀ x ∈ xs, isN x = true) → (encFrom was xs).length ≤ 9 * xs.length
  | _, [], _, _ => by simp [encFrom]
  | was, x :: xs, hw, h => by
    have hx := h x (by simp)
    have h1 := encFrom_len x xs hx (fun y hy => h y (by simp [hy]))
    have h2 := natB_len 9 (zig (x - was)) (by have := zig_lt (diff_ok hx hw); omega) (by omega)
    rw [encFrom, List.length_append, List.length_cons]
    omega
theorem encCols_len {l : List Ev} (hl : l.length ≤ 4000) (h : l.all evSmall = true) : ∀ c, c ≤ 6 → (encCols l c).length ≤ 9 + 36000 * c
  | 0, _ => natB_len 9 _ (by omega) (by omega)
  | c + 1, hc => by
    have h1 := encCols_len hl h c (by omega)
    have h2 := encFrom_len 0 (col l c) rfl (col_small h (by omega))
    have h3 : (col l c).length = l.length := by simp [col]
    rw [encCols, List.length_append]
    omega
theorem part_len {l : List Ev} (hl : l.length ≤ 4000) (h : l.all evSmall = true) {c : Nat} (hc : c < 6) (j : Nat) : (encCols l c ++ encFrom 0 ((col l c).take j)).length ≤ 300000 := by
  have h1 := encCols_len hl h c (by omega)
  have h2 := encFrom_len 0 ((col l c).take j) rfl (fun x hx => col_small h hc x (List.mem_of_mem_take hx))
  have h3 : (col l c).length = l.length := by simp [col]
  have h4 := List.length_take_le j (col l c)
  have h5 : ((col l c).take j).length ≤ (col l c).length := by simp; omega
  rw [List.length_append]
  omega

theorem nat_neg (d : Int) (h0 : d < 0) (hd : -2305843009213693952 < d ∧ d < 2305843009213693952) (w : World) : Calls Try.prog 39 #[.int .i64 (-2 * d - 1)] w fun r w' => r = .returned (.string (strOfNums (natB (zig d)))) ∧ Bel w w' := by
  have hq : zig d = (-2 * d - 1).toNat := by unfold zig; rw [if_pos h0]
  have he : ((zig d : Nat) : Int) = -2 * d - 1 := by rw [hq]; omega
  rw [← he]
  exact natural_ref _ (zig_lt hd) w
theorem nat_pos (d : Int) (h0 : ¬ d < 0) (hd : -2305843009213693952 < d ∧ d < 2305843009213693952) (w : World) : Calls Try.prog 39 #[.int .i64 (2 * d)] w fun r w' => r = .returned (.string (strOfNums (natB (zig d)))) ∧ Bel w w' := by
  have hq : zig d = (2 * d).toNat := by unfold zig; rw [if_neg h0]
  have he : ((zig d : Nat) : Int) = 2 * d := by rw [hq]; omega
  rw [← he]
  exact natural_ref _ (zig_lt hd) w

set_option maxHeartbeats 1000000 in
theorem encodeOf_any (v : Value) (l : List Ev) (w : World) (h : Sl evR w v l) (hl : l.length ≤ 4000) (hsm : l.all evSmall = true) :
    Calls Try.prog 17 #[v] w fun r w' => r = .returned (.string (strOfNums (encCols l 6))) ∧ Bel w w' := by
  obtain ⟨A, c, rfl, hc, hm, hA⟩ := h
  have HA := Lib.hid hA; clear hA
  have hS := strOfNums_size
  have HSM := Lib.hid hsm; clear hsm
  go_enter Try.func17, Try.ntmps17
  go_wp2_with (go_at_call 39; refine (natural_ref l.length (by omega) _).mono ?_; rintro e w1 ⟨rfl, hb1⟩; have HB1 := Lib.hid hb1; clear hb1)
  go_loopw [3, 4] (fun s c wr => ∃ k : Nat, k ≤ 6 ∧ c = .int .i64 k ∧ s = .string (strOfNums (encCols l k)) ∧ Bel w wr) (fun _ c _ => 6 - (intOf c).toNat)
  case atStart => exact ⟨0, by omega, rfl, rfl, HB1.out⟩
  case round =>
    obtain ⟨k, hk, rfl, rfl, hb⟩ := hrel
    have HB := Lib.hid hb; clear hb
    by_cases hk6 : k < 6
    · have HCS := Lib.hid (col_small HSM.out hk6)
      have HPL := Lib.hid (fun j => part_len hl HSM.out hk6 j)
      have hdk : decide ((k : Int) < 6) = true := decide_eq_true (by omega)
      go_wp2
      go_loopw [3, 5, 6] (fun s v i wr => ∃ j : Nat, j ≤ l.length ∧ i = .int .i64 j ∧ v = .int .i64 (wasAt (col l k) j) ∧ s = .string (strOfNums (encCols l k ++ encFrom 0 ((col l k).take j))) ∧ Bel w wr) (fun _ _ i _ => l.length - (intOf i).toNat)
      case atStart => exact ⟨0, by omega, rfl, rfl, by simp [encFrom], HB.out⟩
      case round =>
        obtain ⟨j, hj, rfl, rfl, rfl, hb⟩ := hrel
        by_cases hlt : j < l.length
        · obtain ⟨e, he⟩ : ∃ e, l[j]? = some e := ⟨_, List.getElem?_eq_getElem hlt⟩
          obtain ⟨bb, bo, rfl, hA⟩ := HA.out (by omega)
          obtain ⟨x0, x1, x2, x3, x4, x5⟩ := EvAt.keepB hb (evR.cells hA he)
          have hce : (col l k)[j]? = some (colv e k) := by simp [col, he]
          have HE := Lib.hid (encFrom_succ hce)
          have HW := Lib.hid (wasAt_succ hce)
          have HD := Lib.hid (diff_ok (HCS.out _ (List.mem_of_getElem? hce)) (wasAt_small HCS.out j))
          have HCol := Lib.hid (column_ref e k hk6)
          unfold Ev.val at HCol
          have HBB := Lib.hid hb; clear hb hA he HA hce
          have hp := HPL.out j
          rw [List.length_append] at hp
          have HX : Hid (EvAt wr bb (bo + j * 6) e) := Lib.hid ⟨x0, x1, x2, x3, x4, x5⟩
          have hN : (natB (zig (colv e k - wasAt (col l k) j))).length ≤ 9 := natB_len 9 _ (by have := zig_lt HD.out; omega) (by omega)
          have hd1 := HD.out.1
          have hd2 := HD.out.2
          by_cases h0 : colv e k - wasAt (col l k) j < 0
          · go_wp2_with (first
            | (go_at_call 40; refine (HCol.out _).mono ?_; rintro e' w2 ⟨rfl, hb2⟩; have HX := Lib.hid (EvAt.keepB hb2 HX.out); have HBB := Lib.hid (HBB.out.tr hb2); clear hb2; obtain ⟨x0, x1, x2, x3, x4, x5⟩ := HX.out)
            | (go_at_call 39; (with_reducible refine (nat_neg _ h0 HD.out _).mono ?_); rintro e' w2 ⟨rfl, hb2⟩; have HBB := Lib.hid (HBB.out.tr hb2); clear hb2))
            go_roundw
            case rel => exact ⟨j + 1, by omega, by go_num, by rw [HW.out], by rw [HE.out, str_app, List.append_assoc], HBB.out⟩
            case measure => simp [intOf]; omega
          · go_wp2_with (first
            | (go_at_call 40; refine (HCol.out _).mono ?_; rintro e' w2 ⟨rfl, hb2⟩; have HX := Lib.hid (EvAt.keepB hb2 HX.out); have HBB := Lib.hid (HBB.out.tr hb2); clear hb2; obtain ⟨x0, x1, x2, x3, x4, x5⟩ := HX.out)
            | (go_at_call 39; (with_reducible refine (nat_pos (colv e k - wasAt (col l k) j) (by omega) HD.out _).mono ?_); rintro e' w2 ⟨rfl, hb2⟩; have HBB := Lib.hid (HBB.out.tr hb2); clear hb2))
            go_roundw
            case rel => exact ⟨j + 1, by omega, by go_num, by rw [HW.out], by rw [HE.out, str_app, List.append_assoc], HBB.out⟩
            case measure => simp [intOf]; omega
        · have hjl : (col l k).length ≤ j := by simp [col]; omega
          go_wp2
          go_roundw
          case rel => exact ⟨k + 1, by omega, by go_num, by rw [List.take_of_length_le hjl, encCols], hb⟩
          case measure => simp [intOf]; omega
    · go_wp2
      go_ret
      obtain rfl : k = 6 := by omega
      exact ⟨rfl, HB.out⟩

end Go.Proofs.Ytdfbhlehfbckjaa
