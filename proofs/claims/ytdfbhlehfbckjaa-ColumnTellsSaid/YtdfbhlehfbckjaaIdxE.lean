/- Last; the small trace; what must be in any case. -/
import Derived.Test.YtdfbhlehfbckjaaIdxD
namespace Go.Proofs.Ytdfbhlehfbckjaa
open Go.RowKit

/-- the last one that is less than b, one by one -/
def lastB (xs : List Int) (b : Int) : Int × Bool := xs.foldl (fun acc x => if x < b then (x, true) else acc) (0, false)
theorem lastB_snoc (xs : List Int) (b x : Int) : lastB (xs ++ [x]) b = if x < b then (x, true) else lastB xs b := by
  unfold lastB
  rw [List.foldl_append]
  rfl
theorem lastB_take (xs : List Int) (b : Int) (k : Nat) {x : Int} (h : xs[k]? = some x) : lastB (xs.take (k + 1)) b = if x < b then (x, true) else lastB (xs.take k) b := by
  rw [List.take_add_one, h]
  exact lastB_snoc _ _ _
theorem lastB_of {xs : List Int} {b : Int} {j : Nat} (hb : ∀ (k : Nat) x, xs[k]? = some x → (k < j ↔ x < b)) : ∀ k, k ≤ xs.length → lastB (xs.take k) b = if _h : min j k = 0 then (0, false) else (xs.getD (min j k - 1) 0, true) := by
  intro k
  induction k with
  | zero => intro _; simp [lastB]
  | succ k ih =>
    intro hk
    have hx : xs[k]? = some xs[k] := List.getElem?_eq_getElem (by omega)
    rw [lastB_take xs b k hx, ih (by omega)]
    have h1 := hb k _ hx
    by_cases hlt : xs[k] < b
    · have hkj := h1.2 hlt
      rw [if_pos hlt, dif_neg (by omega)]
      rw [show min j (k + 1) - 1 = k by omega]
      simp [List.getD, hx]
    · have hkj : ¬ k < j := fun h => hlt (h1.1 h)
      rw [if_neg hlt]
      rw [show min j (k + 1) = min j k by omega]

theorem last_ok (v : Value) (l : List Ev) (kind n b : Int) (w : World) (h : Sl evR w v l) (he : findErr l.length kind = 0) :
    Calls Try.prog 8 #[v, .int .i64 kind, .int .i64 n, .int .i64 b] w fun r w' => r = .returned (.tuple #[.int .i64 (lastB (timesUp l kind n l.length) b).1, .bool (lastB (timesUp l kind n l.length) b).2, .int .i64 0]) ∧ Bel w w' := by
  have hl := findErr_ok he
  have hb := build_any v l w h hl
  have hlen := timesUp_len l kind n l.length
  go_enter Try.func8, Try.ntmps8
  have HB := Lib.hid hb; clear hb
  go_wp2_with fail
  refine (ready_any v l kind _ h (by unfold ok64; omega)).mono ?_
  rintro e w' ⟨rfl, rfl⟩
  rw [he]
  have HE := Lib.hid he; clear he
  go_wp2_with fail
  refine HB.out.mono ?_
  rintro e w1 ⟨xb, mb, es, clk, rfl, hx, him, hb1⟩
  obtain ⟨u, hu, hlk⟩ := him.look kind n
  have hlk1 := hlk w1 him.blk
  unfold kv at hlk1
  have HB1 := Lib.hid hb1; clear hb1 HB
  have HU := Lib.hid hu; clear hu
  clear him hlk
  have HS := Lib.hid (timesUp_le l kind n l.length)
  go_wp2_with fail
  refine (below_any u _ b _ HU.out (by omega) HS.out).mono ?_
  rintro e w2 ⟨⟨j, rfl, hj, hjk⟩, hb2⟩
  have HU2 := Lib.hid (HU.out.keep hb2)
  have HB2 := Lib.hid (HB1.out.tr hb2); clear hb2 HU HB1
  have hlast := lastB_of hjk (timesUp l kind n l.length).length (Nat.le_refl _)
  rw [List.take_of_length_le (Nat.le_refl _), show min j (timesUp l kind n l.length).length = j by omega] at hlast
  have HL := Lib.hid hlast; clear hlast hjk
  obtain ⟨A, c, hu, hc, hm, hA⟩ := HU2.out
  subst hu
  have HA := Lib.hid hA; clear hA hm
  by_cases h0 : j = 0
  · subst h0
    go_wp2_with fail
    go_ret3
    exact ⟨by rw [HL.out]; rfl, HB2.out⟩
  · have hj0 : ((j : Int) == 0) = false := by simp; omega
    obtain ⟨x, hx⟩ : ∃ x, (timesUp l kind n l.length)[j - 1]? = some x := ⟨_, List.getElem?_eq_getElem (by omega)⟩
    obtain ⟨bb, bo, rfl, hA⟩ := HA.out (by omega)
    have hcell := intR.cell hA hx
    have hx1 : 0 ≤ (j : Int) - 1 := by omega
    have hx2 : (j : Int) - 1 < (timesUp l kind n l.length).length := by omega
    have hx3 : ((j : Int) - 1).toNat = j - 1 := by omega
    have HL2 : Hid (lastB (timesUp l kind n l.length) b = (x, true)) := by
      have := HL.out
      rw [dif_neg h0] at this
      show lastB _ b = _
      simpa [List.getD, hx] using this
    clear hx hA HA
    go_wp2_with fail
    go_ret3
    exact ⟨by rw [HL2.out]; rfl, HB2.out⟩

def smallT : List Ev := [⟨1, 0, 0, 0, 0, 0⟩, ⟨3, 0, 0, 0, 0, 7⟩, ⟨2, 0, 0, 0, 0, 7⟩, ⟨1, 0, 1, 0, 0, 0⟩, ⟨4, 0, 1, 0, 0, 7⟩, ⟨7, 0, -1, 0, 0, 0⟩]
theorem flatMap_get {α : Type} {enc : α → List Value} {s : Nat} (hs : ∀ x, (enc x).length = s) : ∀ (xs : List α) (k : Nat) (x : α) (j : Nat), xs[k]? = some x → j < s → (xs.flatMap enc)[k * s + j]? = (enc x)[j]?
  | [], k, x, j, h, _ => by simp at h
  | y :: ys, 0, x, j, h, hj => by
    simp only [List.getElem?_cons_zero, Option.some.injEq] at h
    subst h
    rw [List.flatMap_cons, Nat.zero_mul, Nat.zero_add, List.getElem?_append_left (by rw [hs]; exact hj)]
  | y :: ys, k + 1, x, j, h, hj => by
    simp only [List.getElem?_cons_succ] at h
    rw [List.flatMap_cons, List.getElem?_append_right (by rw [hs, Nat.add_mul, Nat.one_mul]; omega), hs, show (k + 1) * s + j - s = k * s + j by rw [Nat.add_mul, Nat.one_mul]; omega]
    exact flatMap_get hs ys k x j h hj
/-- a list of events that lies in a block from its head on -/
theorem Sl.evs {w : World} {g : Nat} {t : TypeId} {cs : Array Value} {c : Nat} (h : Blk w g t cs) {xs : List Ev} (hx : cs.toList = xs.flatMap Ev.cells) (hc : xs.length ≤ c) (hm : c ≤ maxLen) : Sl evR w (.slice (some ⟨g, 0, none⟩) xs.length c) xs := by
  refine ⟨_, c, rfl, hc, ⟨hm, fun h => by cases h⟩, fun _ => ⟨g, 0, rfl, fun k x hk => ⟨x.cells, rfl, fun j u hu => h.cell ?_⟩⟩⟩
  have hj : j < 6 := (List.getElem?_eq_some_iff.1 hu).1
  have := flatMap_get (enc := Ev.cells) (s := 6) (fun _ => rfl) xs k x j hk hj
  rw [← hx, hu] at this
  simpa [evR] using this

theorem smallTrace_any (w : World) : Calls Try.prog 28 #[] w fun r w' => ∃ u, r = .returned u ∧ Sl evR w' u smallT ∧ Bel w w' := by
  go_enter Try.func28, Try.ntmps28
  go_wp2
  go_ret
  refine ⟨_, rfl, ?_, (Bel.rfl_ w).al _⟩
  exact Sl.evs (xs := smallT) (Blk.new _ _ _) rfl (by decide) (by decide)


theorem Sl.ints {w : World} {g : Nat} {t : TypeId} {cs : Array Value} {c : Nat} (h : Blk w g t cs) {xs : List Int} (hx : cs.toList = xs.map (Value.int .i64)) (hc : xs.length ≤ c) (hm : c ≤ maxLen) : Sl intR w (.slice (some ⟨g, 0, none⟩) xs.length c) xs := by
  refine ⟨_, c, rfl, hc, ⟨hm, fun h => by cases h⟩, fun _ => ⟨g, 0, rfl, fun k x hk => ⟨[.int .i64 x], rfl, fun j u hu => h.cell ?_⟩⟩⟩
  have hj : j = 0 := by have := (List.getElem?_eq_some_iff.1 hu).1; simp at this; omega
  subst hj
  simp only [List.getElem?_cons_zero, Option.some.injEq] at hu
  subst hu
  have : cs.toList[k]? = some (.int .i64 x) := by rw [hx, List.getElem?_map, hk]; rfl
  simpa [intR] using this
theorem indexBegun_any (w : World) : Calls Try.prog 12 #[] w fun r w' => r = .returned (.bool true) ∧ Bel w w' := by
  go_enter Try.func12, Try.ntmps12
  go_wp2_with fail
  refine (smallTrace_any _).mono ?_
  rintro e w1 ⟨u1, rfl, hu1, hb1⟩
  have HU1 := Lib.hid hu1; have HB1 := Lib.hid hb1; clear hu1 hb1
  go_wp2_with fail
  refine (find_ok u1 smallT 1 (-1) 0 9 _ HU1.out (by decide)).mono ?_
  rintro e w2 ⟨u2, rfl, hu2, hb2⟩
  have HU2 := Lib.hid (show Sl intR w2 u2 [0, 3] from hu2); have HB2 := Lib.hid (HB1.out.tr hb2); clear hu2 hb2 HB1 HU1
  go_wp2_with fail
  refine (smallTrace_any _).mono ?_
  rintro e w3 ⟨u3, rfl, hu3, hb3⟩
  have HU3 := Lib.hid hu3; have HB3 := Lib.hid (HB2.out.tr hb3); have HU2 := Lib.hid (HU2.out.keep hb3); clear hu3 hb3 HB2
  go_wp2_with fail
  refine (last_ok u3 smallT 1 1 9 _ HU3.out (by decide)).mono ?_
  rintro e w4 ⟨rfl, hb4⟩
  have HB4 := Lib.hid (HB3.out.tr hb4); have HU2 := Lib.hid (HU2.out.keep hb4); clear hb4 HB3 HU3
  rw [show lastB (timesUp smallT 1 1 smallT.length) 9 = (3, true) from by decide]
  go_wp2_with fail
  refine (smallTrace_any _).mono ?_
  rintro e w5 ⟨u5, rfl, hu5, hb5⟩
  have HU5 := Lib.hid hu5; have HB5 := Lib.hid (HB4.out.tr hb5); have HU2 := Lib.hid (HU2.out.keep hb5); clear hu5 hb5 HB4
  go_wp2_with fail
  refine (count_ok u5 smallT 4 7 _ HU5.out (by decide)).mono ?_
  rintro e w6 ⟨rfl, hb6⟩
  have HB6 := Lib.hid (HB5.out.tr hb6); have HU2 := Lib.hid (HU2.out.keep hb6); clear hb6 HB5 HU5
  rw [show (timesUp smallT 4 7 smallT.length).length = 1 from by decide]
  go_wp2_with fail
  have HS := Lib.hid (Sl.ints (xs := [0, 3]) (c := 2) (Blk.new w6 3 #[.int .i64 0, .int .i64 3]) rfl (by decide) (by decide))
  have HB7 := Lib.hid (HB6.out.al (.cells #[.int .i64 0, .int .i64 3] 3)); have HU2 := Lib.hid (HU2.out.keep ((Bel.rfl_ w6).al (.cells #[.int .i64 0, .int .i64 3] 3))); clear HB6
  refine (sameInts_any u2 _ [0, 3] [0, 3] _ HU2.out HS.out (by unfold ok64; decide) (by unfold ok64; decide)).mono ?_
  rintro e w8 ⟨rfl, hb8⟩
  have HB8 := Lib.hid (HB7.out.tr hb8); clear hb8 HB7
  rw [show decide (([0, 3] : List Int) = [0, 3]) = true from by decide]
  go_wp2_with fail
  go_ret
  exact ⟨rfl, HB8.out⟩

end Go.Proofs.Ytdfbhlehfbckjaa
