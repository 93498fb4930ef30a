/- Are batches the same? walked. Each lemma states its own conditions. -/
import Derived.Test.YtkojeofegoljpaaLogG
import Derived.Test.YtkojeofegoljpaaLogH
namespace Go.Proofs.Ytkojeofegoljpaa
open Go.RowKit

/-- lists of events that a slice's cells tell -/
theorem slv_cell {w : World} {b o : Nat} {xs : List (List Ev)} (h : ∀ k x, xs[k]? = some x → (Rep.slice evR).At w b (o + k * (Rep.slice evR).size) x) {k : Nat} {x : List Ev} (hk : xs[k]? = some x) :
    ∃ v, w.cell? ⟨b, o + k, none⟩ = some v ∧ Sl evR w v x := by
  obtain ⟨cs, ⟨v, rfl, hs⟩, hcs⟩ := h k x hk
  have := hcs 0 _ rfl
  refine ⟨v, ?_, hs⟩
  have e : (Rep.slice evR).size = 1 := rfl
  rw [e, Nat.mul_one, Nat.add_zero] at this
  exact this

set_option maxRecDepth 20000 in
set_option maxHeartbeats 1000000 in
theorem sameBatches_any (va vb : Value) (xs ys : List (List Ev)) (w : World) (hx : Sl (Rep.slice evR) w va xs) (hy : Sl (Rep.slice evR) w vb ys) (hlx : xs.length ≤ 1000000) (_hly : ys.length ≤ 1000000)
    (hxe : ∀ x ∈ xs, ok64 x.length) (hye : ∀ y ∈ ys, ok64 y.length) :
    Calls Try.prog 28 #[va, vb] w fun r w' => r = .returned (.bool (decide (xs = ys))) ∧ Bel w w' := by
  have HSE := Lib.hid (fun v u x y W h1 h2 h3 h4 => sameEvents_any v u x y W h1 h2 h3 h4)
  have HXE := Lib.hid hxe
  have HYE := Lib.hid hye
  obtain ⟨A, c, rfl, hc, hm, hA⟩ := hx
  obtain ⟨B, c2, rfl, hc2, hm2, hB⟩ := hy
  have HA := Lib.hid hA
  have HB := Lib.hid hB
  clear hA hB hxe hye
  by_cases hlen : xs.length = ys.length
  · have hne : ((xs.length : Int) != (ys.length : Int)) = false := by rw [hlen]; simp
    have HL := Lib.hid hlen
    have hle : ys.length ≤ xs.length := by omega
    have hge : xs.length ≤ ys.length := by omega
    clear hlen
    go_enter Try.func28, Try.ntmps28
    go_wp2
    go_loopw [5] (fun i wr => ∃ k : Nat, k ≤ xs.length ∧ i = .int .i64 k ∧ Hid (xs.take k = ys.take k) ∧ Hid (Bel w wr)) (fun i _ => xs.length - (intOf i).toNat)
    case atStart => exact ⟨0, by omega, rfl, Lib.hid rfl, Lib.hid (Bel.rfl_ w)⟩
    case round =>
      obtain ⟨k, hk, rfl, HT, HW⟩ := hrel
      by_cases hlt : k < xs.length
      · have hd : decide ((k : Int) < xs.length) = true := decide_eq_true (by omega)
        have hky : k < ys.length := by omega
        obtain ⟨x, hx⟩ : ∃ x, xs[k]? = some x := ⟨_, List.getElem?_eq_getElem hlt⟩
        obtain ⟨y, hy⟩ : ∃ y, ys[k]? = some y := ⟨_, List.getElem?_eq_getElem hky⟩
        obtain ⟨ba, oa, rfl, hxa⟩ := HA.out (by omega)
        obtain ⟨bb, ob, rfl, hyb⟩ := HB.out (by omega)
        obtain ⟨u, hu, hsu⟩ := slv_cell hxa hx
        obtain ⟨v, hv, hsv⟩ := slv_cell hyb hy
        have hu := HW.out.cell hu
        have hv := HW.out.cell hv
        have HXX := Lib.hid hx
        have HYY := Lib.hid hy
        have HC := Lib.hid (fun W (hb : Bel wr W) => HSE.out u v x y W ((hsu.keep HW.out).keep hb) ((hsv.keep HW.out).keep hb) (HXE.out x (List.mem_of_getElem? hx)) (HYE.out y (List.mem_of_getElem? hy)))
        clear hxa hyb hx hy hsu hsv
        generalize hD : decide (x = y) = D at HC
        have HD := Lib.hid hD
        clear hD
        go_wp2
        have HF := Lib.hid (fun W (hb : Bel wr W) => And.intro (hb.cell hu) (hb.cell hv))
        have hbX := Lib.hid (Bel.rfl_ wr)
        go_region_held3 (fun w' => w'.cell? ⟨ba, oa + k, none⟩ = some u ∧ w'.cell? ⟨bb, ob + k, none⟩ = some v)
          (first | exact HF.out _ (by repeat (first | exact hbX.out | apply Bel.dr | apply Bel.al)))
          (first | (go_at_call 33; refine (HC.out _ (by repeat (first | exact hbX.out | apply Bel.dr))).mono ?_; rintro r w2 ⟨rfl, hb2⟩; have hbX := Lib.hid (Bel.tr (a := wr) (by repeat (first | exact Bel.rfl_ _ | apply Bel.dr)) hb2); clear hb2))
        have HW2 := Lib.hid (HW.out.tr hbX.out)
        clear HF hbX
        cases D with
        | true =>
          have HT2 := Lib.hid (take_eq_succ HXX.out HYY.out HT.out (of_decide_eq_true HD.out))
          go_wp2
          exact ⟨⟨k + 1, by omega, by go_num, HT2, HW2⟩, by simp [intOf]; omega⟩
        | false =>
          have HNX := Lib.hid (ne_of_get HXX.out HYY.out (of_decide_eq_false HD.out))
          go_wp2
          go_ret
          exact ⟨ret_bool (by rw [decide_eq_false HNX.out]), HW2.out⟩
      · have hd : decide ((k : Int) < xs.length) = false := decide_eq_false (by omega)
        go_wp2
        go_ret
        refine ⟨ret_bool ?_, HW.out⟩
        have h1 := HT.out
        rw [List.take_of_length_le (by omega), List.take_of_length_le (by omega)] at h1
        simp [h1]
  · have hne : ((xs.length : Int) != (ys.length : Int)) = true := by simp; omega
    have HL := Lib.hid hlen
    clear hlen
    go_enter Try.func28, Try.ntmps28
    go_wp2
    go_ret
    refine ⟨ret_bool ?_, Bel.rfl_ w⟩
    have : xs ≠ ys := fun h => HL.out (by rw [h])
    simp [this]

end Go.Proofs.Ytkojeofegoljpaa
