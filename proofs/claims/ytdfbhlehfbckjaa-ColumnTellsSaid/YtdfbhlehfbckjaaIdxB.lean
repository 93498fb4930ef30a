/- Contracts: what FindOf finds; a list cloned; how many of a rising list are less than a number. -/
import Derived.Test.YtdfbhlehfbckjaaOwn
import Derived.Test.YtdfbhlehfbckjaaIdxA
import Derived.Test.YtdfbhlehfbckjaaEvEq
namespace Go.Proofs.Ytdfbhlehfbckjaa
open Go.RowKit

theorem elInt : Elem Try.prog 23 3 1 8 := Elem.mk_ (z := .int .i64 0) (by kernel_rfl) (by kernel_rfl) rfl (by decide)
theorem elEv : Elem Try.prog 22 58 6 48 := Elem.mk_ (z := .agg #[.int .i64 0, .int .i64 0, .int .i64 0, .int .i64 0, .int .i64 0, .int .i64 0]) (by kernel_rfl) (by kernel_rfl) rfl (by decide)

def fitAt (l : List Ev) (kind n : Int) (t : Nat) : Bool := match l[t]? with | some e => fits e kind n | none => false
/-- of the first k times those that fit, from one on, to another one -/
def findUp (l : List Ev) (kind n a b : Int) (k : Nat) : List Int := ((List.range k).filter fun (t : Nat) => decide (a ≤ (t : Int)) && (decide ((t : Int) < b) && fitAt l kind n t)).map Int.ofNat
theorem findUp_succ (l : List Ev) (kind n a b : Int) (k : Nat) : findUp l kind n a b (k + 1) = findUp l kind n a b k ++ if (decide (a ≤ (k : Int)) && (decide ((k : Int) < b) && fitAt l kind n k)) = true then [(k : Int)] else [] := by
  unfold findUp
  rw [List.range_succ, List.filter_append, List.map_append]
  congr 1
  by_cases h : (decide (a ≤ (k : Int)) && (decide ((k : Int) < b) && fitAt l kind n k)) = true
  · rw [if_pos h]; simp [h]
  · rw [if_neg h]; simp [h]
theorem findUp_len (l : List Ev) (kind n a b : Int) (k : Nat) : (findUp l kind n a b k).length ≤ k := by
  unfold findUp
  rw [List.length_map]
  exact Nat.le_trans (List.length_filter_le _ _) (by simp)
theorem EvAt.keep {w w' : World} {b o : Nat} {e : Ev} (hb : Bel w w') (h : EvAt w b o e) : EvAt w' b o e := by
  obtain ⟨h0, h1, h2, h3, h4, h5⟩ := h
  exact ⟨hb.cell h0, hb.cell h1, hb.cell h2, hb.cell h3, hb.cell h4, hb.cell h5⟩

set_option maxHeartbeats 400000 in
theorem findOf_any (v : Value) (l : List Ev) (kind n a b : Int) (w : World) (h : Sl evR w v l) (hl : l.length ≤ 4000) :
    Calls Try.prog 11 #[v, .int .i64 kind, .int .i64 n, .int .i64 a, .int .i64 b] w fun r w' => ∃ u, r = .returned u ∧
      w'.ownsRow w.heap.size 3 1 u (findUp l kind n a b l.length).length ((findUp l kind n a b l.length).map (Value.int .i64)) ∧ Bel w w' := by
  obtain ⟨A, c, rfl, hc, hm, hA⟩ := h
  have HA := Lib.hid hA; clear hA
  go_enter Try.func11, Try.ntmps11
  go_wp2
  go_loopw [11, 12] (fun u i wr => ∃ k : Nat, k ≤ l.length ∧ i = .int .i64 k ∧ Hid (wr.ownsRow w.heap.size 3 1 u (findUp l kind n a b k).length ((findUp l kind n a b k).map (Value.int .i64))) ∧ Bel w wr) (fun _ i _ => l.length - (intOf i).toNat)
  case atStart => exact ⟨0, by omega, rfl, (by unfold Hid; simpa [findUp] using World.ownsRow_nil w w.heap.size 3 1), Bel.rfl_ w⟩
  case round =>
    obtain ⟨k, hk, rfl, hown, hb⟩ := hrel
    by_cases hlt : k < l.length
    · obtain ⟨e, he⟩ : ∃ e, l[k]? = some e := ⟨_, List.getElem?_eq_getElem hlt⟩
      obtain ⟨bb, bo, rfl, hA⟩ := HA.out (by omega)
      obtain ⟨x0, x1, x2, x3, x4, x5⟩ := (evR.cells hA he).keep hb
      have hle := findUp_len l kind n a b k
      have hfit : fitAt l kind n k = fits e kind n := by unfold fitAt; rw [he]
      have hsucc := findUp_succ l kind n a b k
      rw [hfit] at hsucc
      have HS := Lib.hid hsucc
      clear hA HA he hfit hsucc
      have hF := Lib.hid (fits_any e kind n)
      unfold Ev.val at hF
      have HB := Lib.hid hb; clear hb
      by_cases hx : (decide (a ≤ (k : Int)) && (decide ((k : Int) < b) && fits e kind n)) = true
      · have HN : Hid (findUp l kind n a b (k + 1) = findUp l kind n a b k ++ [(k : Int)]) := by
          have := HS.out
          rw [if_pos hx] at this
          exact this
        clear HS
        simp only [Bool.and_eq_true] at hx
        obtain ⟨b1, b2, b3⟩ := hx
        go_wp2_with (first
          | (go_at_call 27; refine (hF.out _).mono ?_; rintro e w1 ⟨rfl, hb1⟩; have HB1 := Lib.hid (HB.out.tr hb1); have HO1 := Lib.hid (hb1.own hown.out); clear hb1; rw [b3])
          | (at_builtin; refine wpl_app w1 rfl (.tmp 36) (.tmp 38) 23 rfl w.heap.size elInt u11 _ _ rfl HO1.out [.int .i64 k] rfl rfl (by simp [Value.oneCell']) (by simp only [maxLen]; omega) (by omega) HB1.out.size ?_; intro g cap w2 hown2 hg2 _; have HO2 := Lib.hid hown2; have HB2 := Lib.hid (Below.ofGrown HB1.out HO1.out hg2 (Nat.le_refl _) HB1.out.size); clear hown2 hg2))
        go_roundw
        case rel => exact ⟨k + 1, by omega, by go_num, (by have := HO2.out; unfold Hid; rw [HN.out]; simpa using this), HB2.out⟩
        case measure => simp [intOf]; omega
      · have HN : Hid (findUp l kind n a b (k + 1) = findUp l kind n a b k) := by
          have := HS.out
          rw [if_neg hx, List.append_nil] at this
          exact this
        clear HS
        cases b1 : decide (a ≤ (k : Int)) <;> cases b2 : decide ((k : Int) < b) <;> cases b3 : fits e kind n
        all_goals first
          | (exfalso; exact hx (by rw [b1, b2, b3]; rfl))
          | (clear hx
             go_wp2_with (go_at_call 27; refine (hF.out _).mono ?_; rintro e w1 ⟨rfl, hb1⟩; have HB1 := Lib.hid (HB.out.tr hb1); have HO1 := Lib.hid (hb1.own hown.out); clear hb1; rw [b3])
             refine ⟨⟨k + 1, by omega, by go_num, ?_, ?_⟩, by simp [intOf]; omega⟩
             · unfold Hid; rw [HN.out]; first | exact HO1.out | exact hown.out
             · first | exact HB1.out | exact HB.out)
    · obtain rfl : k = l.length := by omega
      go_wp2
      go_ret
      exact ⟨_, rfl, hown.out, hb⟩


/-- 'slices.Clone' of numbers: a list of the call's own. -/
theorem cloneInt_any (v : Value) (xs : List Int) (w : World) (h : Sl intR w v xs) (hl : xs.length ≤ 1000000) :
    Calls Try.prog 25 #[v] w fun r w' => ∃ u, r = .returned u ∧ w'.ownsRow w.heap.size 3 1 u xs.length (xs.map (Value.int .i64)) ∧ Bel w w' := by
  obtain ⟨A, c, rfl, hc, hm, hA⟩ := h
  have HA := Lib.hid hA; clear hA
  have HM := Lib.hid hm; clear hm
  have hnil := fun (w : World) (A : Option Addr) (n c : Nat) => Lib.run_eql_slice_nil (P := Try.prog) w 23 3 A n c 0 0 Try.underlying23
  cases A with
  | none =>
    have h0 : xs.length = 0 := by
      rcases Nat.eq_zero_or_pos xs.length with h0 | h0
      · exact h0
      · obtain ⟨_, _, h, _⟩ := HA.out h0; cases h
    obtain rfl : xs = [] := List.eq_nil_of_length_eq_zero h0
    go_enter Try.func25, Try.ntmps25
    go_wp2
    go_ret
    exact ⟨_, rfl, World.ownsRow_nil _ _ _ _, Bel.rfl_ w⟩
  | some ad =>
    have hown0 := World.ownsRow_made (base := w.heap.size) (e := 3) (size := 1) w #[] 0 (Nat.le_refl _) (Nat.zero_le _) rfl
    have hb0 : Bel w (w.alloc (.cells #[] 3)) := (Bel.rfl_ w).al _
    have hcs : 0 < xs.length → ∃ b off, some ad = some ⟨b, off, none⟩ ∧ CellsAt (w.alloc (.cells #[] 3)) b off (xs.map (Value.int .i64)) := fun hp => by
      obtain ⟨b, o, h1, h2⟩ := HA.out hp
      exact ⟨b, o, h1, (ints_cells h2).keep hb0⟩
    have HO := Lib.hid hown0; clear hown0
    have HB := Lib.hid hb0; clear hb0
    have HC := Lib.hid hcs; clear hcs
    go_enter Try.func25, Try.ntmps25
    go_wp2_with (at_builtin; refine wpl_appAll (w.alloc (.cells #[] 3)) rfl (.tmp 5) (.tmp 6) 23 rfl w.heap.size elInt _ 0 [] rfl HO.out _ xs.length c (xs.map (Value.int .i64)) rfl (by simp) HM.out.2 HC.out (ints_one xs) (by simp only [maxLen]; omega) (by omega) HB.out.size ?_; intro v' w' hown hg _; have HO1 := Lib.hid hown; have HB1 := Lib.hid (Below.ofGrown HB.out HO.out hg (Nat.le_refl _) HB.out.size); clear hown hg)
    go_ret
    exact ⟨_, rfl, (by simpa using HO1.out), HB1.out⟩

theorem mid_lo {xs : List Int} {t x : Int} {p q h : Nat} (hs : xs.Pairwise (· ≤ ·)) (hsp : ∀ (k : Nat) x, xs[k]? = some x → (k < p → x < t) ∧ (q ≤ k → t ≤ x)) (hx : xs[h]? = some x) (hlt : x < t) :
    ∀ (k : Nat) y, xs[k]? = some y → (k < h + 1 → y < t) ∧ (q ≤ k → t ≤ y) := by
  intro k y hy
  refine ⟨fun hk => ?_, (hsp k y hy).2⟩
  obtain ⟨h1, h2⟩ := List.getElem?_eq_some_iff.1 hx
  obtain ⟨k1, k2⟩ := List.getElem?_eq_some_iff.1 hy
  rcases Nat.lt_or_ge k h with hkh | hkh
  · have := List.pairwise_iff_getElem.1 hs k h k1 h1 hkh
    omega
  · obtain rfl : k = h := by omega
    omega
theorem mid_hi {xs : List Int} {t x : Int} {p q h : Nat} (hs : xs.Pairwise (· ≤ ·)) (hsp : ∀ (k : Nat) x, xs[k]? = some x → (k < p → x < t) ∧ (q ≤ k → t ≤ x)) (hx : xs[h]? = some x) (hlt : t ≤ x) :
    ∀ (k : Nat) y, xs[k]? = some y → (k < p → y < t) ∧ (h ≤ k → t ≤ y) := by
  intro k y hy
  refine ⟨(hsp k y hy).1, fun hk => ?_⟩
  obtain ⟨h1, h2⟩ := List.getElem?_eq_some_iff.1 hx
  obtain ⟨k1, k2⟩ := List.getElem?_eq_some_iff.1 hy
  rcases Nat.lt_or_ge h k with hkh | hkh
  · have := List.pairwise_iff_getElem.1 hs h k h1 k1 hkh
    omega
  · obtain rfl : k = h := by omega
    omega

/-- 'slices.BinarySearch' over a list that rises. -/
theorem search_any (v : Value) (xs : List Int) (t : Int) (w : World) (h : Sl intR w v xs) (hl : xs.length ≤ 1000000) (hs : xs.Pairwise (· ≤ ·)) :
    Calls Try.prog 43 #[v, .int .i64 t] w fun r w' => (∃ (i : Nat) (b : Bool), r = .returned (.tuple #[.int .i64 i, .bool b]) ∧ i ≤ xs.length ∧ (∀ (k : Nat) x, xs[k]? = some x → (k < i ↔ x < t))) ∧ Bel w w' := by
  obtain ⟨A, c, rfl, hc, hm, hA⟩ := h
  have HA := Lib.hid hA; clear hA hm
  have HS := Lib.hid hs; clear hs
  go_enter Try.func43, Try.ntmps43
  go_wp2
  go_loopw [7, 8] (fun i j wr => ∃ p q : Nat, i = .int .i64 p ∧ j = .int .i64 q ∧ p ≤ q ∧ q ≤ xs.length ∧ Hid (∀ (k : Nat) x, xs[k]? = some x → (k < p → x < t) ∧ (q ≤ k → t ≤ x)) ∧ wr = w) (fun i j _ => (intOf j).toNat - (intOf i).toNat)
  case atStart => exact ⟨0, xs.length, rfl, rfl, by omega, by omega, (fun k x hk => ⟨by omega, fun h => by have := (List.getElem?_eq_some_iff.1 hk).1; omega⟩), rfl⟩
  case round =>
    obtain ⟨p, q, rfl, rfl, hpq, hq, hsp, rfl⟩ := hrel
    by_cases hlt : p < q
    · obtain ⟨x, hx⟩ : ∃ x, xs[(p + q) / 2]? = some x := ⟨_, List.getElem?_eq_getElem (by omega)⟩
      obtain ⟨b, o, rfl, hA⟩ := HA.out (by omega)
      have hcell := intR.cell hA hx
      have HX := Lib.hid hx
      have h1 : ((p : Int) + q) / 2 < xs.length := by omega
      have h2 : 0 ≤ ((p : Int) + q) / 2 := by omega
      clear hx hA HA
      by_cases hxt : x < t
      · go_wp2
        go_roundw
        case rel => exact ⟨(p + q) / 2 + 1, q, by congr 1, rfl, by omega, hq, mid_lo HS.out hsp.out HX.out hxt, trivial⟩
        case measure => simp [intOf]; omega
      · go_wp2
        go_roundw
        case rel => exact ⟨p, (p + q) / 2, rfl, by congr 1, by omega, by omega, mid_hi HS.out hsp.out HX.out (by omega), trivial⟩
        case measure => simp [intOf]; omega
    · obtain rfl : p = q := by omega
      by_cases hpl : p < xs.length
      · obtain ⟨x, hx⟩ : ∃ x, xs[p]? = some x := ⟨_, List.getElem?_eq_getElem (by omega)⟩
        obtain ⟨b, o, rfl, hA⟩ := HA.out (by omega)
        have hcell := intR.cell hA hx
        clear hx hA HA
        go_wp2
        all_goals go_ret2
        all_goals exact ⟨⟨p, _, rfl, hq, fun k x hk => ⟨fun h => (hsp.out k x hk).1 h, fun h => by have := (hsp.out k x hk).2; omega⟩⟩, Bel.rfl_ _⟩
      · go_wp2
        all_goals go_ret2
        all_goals exact ⟨⟨p, _, rfl, hq, fun k x hk => ⟨fun h => (hsp.out k x hk).1 h, fun h => by have := (hsp.out k x hk).2; omega⟩⟩, Bel.rfl_ _⟩

end Go.Proofs.Ytdfbhlehfbckjaa
