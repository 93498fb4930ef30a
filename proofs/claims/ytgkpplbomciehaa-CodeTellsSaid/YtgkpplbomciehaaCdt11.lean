/- Expressions of a program, by the document: walked. Each lemma states its own conditions. -/
import Derived.Test.YtgkpplbomciehaaCdt10
namespace Go.Proofs.Ytgkpplbomciehaa
open Go.RowKit
theorem firstP_drop {z : List Int} {l : List PE} {k : Nat} {x : PE} (hx : l[k]? = some x) : firstP z (l.drop k) = orE (partP z x) (firstP z (l.drop (k + 1))) := by
  obtain ⟨hl, rfl⟩ := List.getElem?_eq_some_iff.1 hx
  rw [List.drop_eq_getElem_cons hl, firstP]
theorem firstP_end {z : List Int} {l : List PE} {k : Nat} (h : l.length ≤ k) : firstP z (l.drop k) = 0 := by rw [List.drop_eq_nil_of_le h, firstP]
theorem orE_n {a : Int} (h : a ≠ 0) (b : Int) : orE a b = a := by unfold orE; rw [if_neg h]
theorem orE_z (b : Int) : orE 0 b = b := by unfold orE; rw [if_pos rfl]
mutual
theorem PE.size_all : ∀ (e : PE) (m : Int), 0 ≤ m → (e.size m ≤ m ↔ (e.all.length : Int) ≤ m) ∧ (e.size m ≤ m → e.size m = e.all.length)
  | .mk k n args, m, hm => by
    rw [PE.size, PE.all]
    have := sizeP_all args 1 m (by omega)
    rw [List.length_cons]
    have e1 : ((allP args).length + 1 : Nat) = 1 + ((allP args).length : Int) := by omega
    rw [e1]
    exact this
theorem sizeP_all : ∀ (l : List PE) (a m : Int), a ≤ m + 1 → (sizeP l a m ≤ m ↔ a + (allP l).length ≤ m) ∧ (sizeP l a m ≤ m → sizeP l a m = a + (allP l).length)
  | [], a, m, _ => by rw [sizeP, allP]; simp
  | x :: xs, a, m, ha => by
    rw [sizeP, allP, List.length_append]
    by_cases h : m < a
    · rw [if_pos h]
      exact ⟨⟨fun h2 => by omega, fun h2 => by omega⟩, fun h2 => by omega⟩
    · rw [if_neg h]
      obtain ⟨h1, h2⟩ := PE.size_all x (m - a) (by omega)
      obtain ⟨s1, s2⟩ := PE.size_le x (m - a) (by omega)
      obtain ⟨h3, h4⟩ := sizeP_all xs (a + x.size (m - a)) m (by omega)
      by_cases hs : x.size (m - a) ≤ m - a
      · have e := h2 hs
        rw [e] at h3 h4 ⊢
        exact ⟨⟨fun h => by have := h3.1 h; omega, fun h => h3.2 (by omega)⟩, fun h => by rw [h4 h]; omega⟩
      · have : ¬ ((x.all.length : Int) ≤ m - a) := fun h => hs (h1.2 h)
        refine ⟨⟨fun h => ?_, fun h => by omega⟩, fun h => ?_⟩
        · have := h3.1 h; omega
        · have := h3.1 h; omega
end
set_option maxRecDepth 20000 in
set_option maxHeartbeats 16000000 in
theorem checkExpr_any (z : List Int) (e : PE) (val zv : Value) (w : World) (h : PEV w e val) (hs : Sl intR w zv z) :
    Calls Try.prog 57 #[val, zv] w fun r w' => r = .returned (.int .i64 (e.err z)) ∧ Bel w w' := by
  have HS := Lib.hid (fun W (hb : Bel w W) => partsP_any e 15 val W (by decide) (by decide) (h.keep hb))
  have HAL := Lib.hid (fun W (hb : Bel w W) (h15 : e.all.length ≤ 15) => allParts_any w e val W h15 h hb)
  have HG : Hid (e.err z = if 15 < e.size 15 then 2 else firstP z e.all) := Lib.hid (by unfold PE.err; rw [PE.parts_first])
  have HSA := (PE.size_all e 15 (by decide)).1
  have hle := PE.size_le e 15 (by decide)
  obtain ⟨v, rfl, A, c, rfl, -⟩ := h
  obtain ⟨Z, cz, rfl, hzc, hzm, hZ⟩ := hs
  have HZ := Lib.hid hZ
  have hlz : z.length ≤ 9223372036854775807 := by have := hzm.1; simp only [maxLen] at this; omega
  clear hzc hzm hZ
  generalize e.err z = T at *
  generalize e.size 15 = y at *
  generalize e.kind = k at *
  generalize e.n = n at *
  have HB := Lib.hid ((Bel.rfl_ w).al (.cells #[.int .i64 k, .int .i64 n, .slice A e.args.length c] 47))
  have z0 : ∀ i u, (#[Value.int .i64 k, .int .i64 n, .slice A e.args.length c] : Array Value)[i]? = some u → (w.alloc (.cells #[.int .i64 k, .int .i64 n, .slice A e.args.length c] 47)).cell? ⟨w.heap.size, i, none⟩ = some u := fun i u hu => (Blk.new w _ _).cell hu
  go_enter Try.func57, Try.ntmps57
  go_wp2_with fail
  refine (HS.out _ HB.out).mono ?_
  rintro r w1 ⟨rfl, hb⟩
  have q0 := hb.cell (z0 0 _ rfl)
  have q1 := hb.cell (z0 1 _ rfl)
  have q2 := hb.cell (z0 2 _ rfl)
  replace HB := Lib.hid (HB.out.tr hb)
  clear hb z0
  by_cases hy : 15 < y
  · have HR : Hid (T = 2) := Lib.hid (by rw [HG.out, if_pos hy])
    have d0 : decide (y > 15) = true := decide_eq_true hy
    go_wp2
    go_ret
    exact ⟨by rw [HR.out]; rfl, HB.out⟩
  have d0 : decide (y > 15) = false := decide_eq_false hy
  have h15 : e.all.length ≤ 15 := by have := HSA.1 (by omega); omega
  have HT : Hid (firstP z (e.all.drop 0) = T) := Lib.hid (by rw [HG.out, if_neg hy]; rfl)
  clear HG HSA hle
  go_wp2_with fail
  refine (HAL.out _ HB.out h15).mono ?_
  rintro r w2 ⟨v2, cells, rfl, hown, -, hper, hb⟩
  have HSL : Hid (Sl peR w2 v2 e.all) := Lib.hid (Sl.own (r := peR) hown rfl fun i x hx => (hper i x hx).keep (HB.out.tr hb))
  replace HB := Lib.hid (HB.out.tr hb)
  clear hb hown hper HAL q0 q1 q2 hy
  generalize e.all = l at *
  obtain ⟨A2, c2, rfl, -, -, hA2⟩ := id HSL.out
  have HA2 := Lib.hid hA2
  clear hA2 HSL
  go_wp2
  go_loopw [6] (fun i wr => ∃ j : Nat, i = .int .i64 j ∧ j ≤ l.length ∧ Hid (firstP z (l.drop j) = T) ∧ Hid (Bel w2 wr)) (fun i _ => l.length - (intOf i).toNat)
  case atStart => exact ⟨0, rfl, by omega, HT, Bel.rfl_ _⟩
  case round =>
    obtain ⟨j, rfl, hj, HJ, HW⟩ := hrel
    clear HT HS d0
    by_cases hlt : j < l.length
    rotate_left
    · have HR : Hid (0 = T) := Lib.hid (by rw [← HJ.out, firstP_end (by omega)])
      go_wp2
      go_ret
      exact ⟨by rw [← HR.out]; rfl, HB.out.tr HW.out⟩
    obtain ⟨q, hq⟩ : ∃ e, l[j]? = some e := ⟨_, List.getElem?_eq_getElem hlt⟩
    obtain ⟨b2, o2, rfl, hA⟩ := HA2.out (by omega)
    obtain ⟨B, mm, cc, hs, y0, y1, y2⟩ := peR.cells hA hq
    have y0 := HW.out.cell y0
    have y1 := HW.out.cell y1
    have y2 := HW.out.cell y2
    obtain ⟨_, _, hv, hcq, hm, -⟩ := id hs
    have hmm : mm = q.args.length := by injection hv
    have hlm : mm ≤ 9223372036854775807 := by rw [hmm]; have := hm.1; simp only [maxLen] at this; omega
    clear hm hcq
    have HJ2 : Hid (orE (partP z q) (firstP z (l.drop (j + 1))) = T) := Lib.hid (by rw [← firstP_drop hq]; exact HJ.out)
    have HPQ : Hid (partP z q = if arityE q.kind < 0 then 7 else if (mm : Int) ≠ arityE q.kind then 1 else if q.kind = 1 then (if -9999999 ≤ q.n ∧ q.n ≤ 9999999 then 0 else 3) else if q.kind ≤ 3 then (if 0 ≤ q.n ∧ q.n < z.length then (if q.kind = 2 ∧ 0 < z.getD q.n.toNat 0 ∨ q.kind = 3 ∧ z.getD q.n.toNat 0 = 0 then 7 else 0) else 5) else if q.n ≠ 0 then 3 else 0) := Lib.hid (by rw [hmm]; rfl)
    clear hmm hv hs hq hA HJ HA2
    generalize partP z q = P at *
    generalize hF : firstP z (l.drop (j + 1)) = F at *
    generalize q.kind = qk at *
    generalize q.n = qn at *
    have HAR : Hid (∀ W, Calls Try.prog 107 #[.int .i64 qk] W fun r w' => r = .returned (.int .i64 (arityE qk)) ∧ Bel W w') := Lib.hid (argsOf_any _)
    have hA0 : arityE qk < 0 ↔ (qk < 1 ∨ 10 < qk) := by
      unfold arityE
      repeat' split
      all_goals omega
    generalize arityE qk = ar at *
    have HK := Lib.hid (Blk.new wr 47 #[.int .i64 qk, .int .i64 qn, .slice B mm cc])
    have HWB := Lib.hid (HB.out.tr (HW.out.al (.cells #[.int .i64 qk, .int .i64 qn, .slice B mm cc] 47)))
    have HW2 := Lib.hid (HW.out.al (.cells #[.int .i64 qk, .int .i64 qn, .slice B mm cc] 47))
    go_wp2_with fail
    refine (HAR.out _).mono ?_
    rintro r w3 ⟨rfl, hb⟩
    have c0 := hb.cell (HK.out.cell (i := 0) rfl)
    have c1 := hb.cell (HK.out.cell (i := 1) rfl)
    have c2' := hb.cell (HK.out.cell (i := 2) rfl)
    have HB3 := Lib.hid (HWB.out.tr hb)
    have HW3 := Lib.hid (HW2.out.tr hb)
    clear hb HK HWB HW2 HAR HW y0 y1 y2
    generalize wr.heap.size = K at *
    by_cases h1 : ar < 0
    · have HP : P = 7 := by rw [HPQ.out, if_pos h1]
      have d1 : decide (ar < 0) = true := decide_eq_true h1
      have HR : Hid (7 = T) := Lib.hid (by rw [← HJ2.out, HP, orE_n (by decide)])
      clear hA0 HPQ HJ2 HP h1
      go_wp2
      go_ret
      exact ⟨by rw [← HR.out]; rfl, HB3.out⟩
    have d1 : decide (ar < 0) = false := decide_eq_false h1
    by_cases h2 : (mm : Int) ≠ ar
    · have HP : P = 1 := by rw [HPQ.out, if_neg h1, if_pos h2]
      have d2 : ((mm : Int) != ar) = true := by simpa using h2
      have HR : Hid (1 = T) := Lib.hid (by rw [← HJ2.out, HP, orE_n (by decide)])
      clear hA0 HPQ HJ2 HP h1 h2
      go_wp2
      go_ret
      exact ⟨by rw [← HR.out]; rfl, HB3.out⟩
    have d2 : ((mm : Int) != ar) = false := by simpa using h2
    by_cases k1 : qk = 1
    · have e1 : (qk == 1) = true := by rw [k1]; rfl
      by_cases hn : -9999999 ≤ qn ∧ qn ≤ 9999999
      · have HP : P = 0 := by rw [HPQ.out, if_neg h1, if_neg h2, if_pos k1, if_pos hn]
        have HR : Hid (F = T) := Lib.hid (by rw [← HJ2.out, HP, orE_z])
        have dn : decide (-9999999 ≤ qn ∧ qn ≤ 9999999) = true := decide_eq_true hn
        clear hA0 HPQ HJ2 HP h1 h2 k1 hn
        go_wp2_with fail
        refine (between_any _ _ _ _).mono ?_
        rintro r w4 ⟨rfl, rfl⟩
        rw [dn]
        clear dn
        go_wp2
        go_roundw
        case rel => exact ⟨j + 1, by go_num, by omega, Lib.hid (by rw [hF]; exact HR.out), HW3⟩
        case measure => simp [intOf]; omega
      · have HP : P = 3 := by rw [HPQ.out, if_neg h1, if_neg h2, if_pos k1, if_neg hn]
        have HR : Hid (3 = T) := Lib.hid (by rw [← HJ2.out, HP, orE_n (by decide)])
        have dn : decide (-9999999 ≤ qn ∧ qn ≤ 9999999) = false := decide_eq_false hn
        clear hA0 HPQ HJ2 HP h1 h2 k1 hn
        go_wp2_with fail
        refine (between_any _ _ _ _).mono ?_
        rintro r w4 ⟨rfl, rfl⟩
        rw [dn]
        clear dn
        go_wp2
        go_ret
        exact ⟨by rw [← HR.out]; rfl, HB3.out⟩
    have e1 : (qk == 1) = false := by simpa using k1
    by_cases k3 : qk ≤ 3
    · have dk : decide (qk ≤ 3) = true := decide_eq_true k3
      have hk0 : 1 ≤ qk := by omega
      by_cases hn : 0 ≤ qn ∧ qn ≤ (z.length : Int) - 1
      · have dn : decide (0 ≤ qn ∧ qn ≤ (z.length : Int) - 1) = true := decide_eq_true hn
        obtain ⟨x, hx⟩ : ∃ x, z[qn.toNat]? = some x := ⟨_, List.getElem?_eq_getElem (by omega)⟩
        have hgx : z.getD qn.toNat 0 = x := by rw [List.getD_eq_getElem?_getD, hx]; rfl
        obtain ⟨b, o, rfl, hA⟩ := HZ.out (by omega)
        have cx := HB3.out.cell (intR.cell hA hx)
        have HP0 : Hid (P = if qk = 2 ∧ 0 < x ∨ qk = 3 ∧ x = 0 then 7 else 0) := Lib.hid (by rw [HPQ.out, if_neg h1, if_neg h2, if_neg k1, if_pos k3, if_pos (by omega), hgx])
        obtain ⟨m, hm⟩ : ∃ m : Nat, qn = m := ⟨qn.toNat, by omega⟩
        subst hm
        obtain ⟨hn0, hn1⟩ := hn
        rw [Int.toNat_natCast] at cx
        have hmz : (m : Int) < z.length := by omega
        clear hA hx hgx HZ h1 h2 hA0 HPQ
        by_cases k2 : qk = 2
        · have e2 : (qk == 2) = true := by rw [k2]; rfl
          have e3 : (qk == 3) = false := by rw [k2]; rfl
          by_cases hx1 : 0 < x
          · have HP : P = 7 := by rw [HP0.out, if_pos (by omega)]
            have HR : Hid (7 = T) := Lib.hid (by rw [← HJ2.out, HP, orE_n (by decide)])
            have dx : decide (x > 0) = true := decide_eq_true hx1
            clear HJ2 HP HP0 k1 k2 k3 hk0 hx1
            go_wp2_with fail
            refine (between_any _ _ _ _).mono ?_
            rintro r w4 ⟨rfl, rfl⟩
            rw [dn]
            clear dn
            go_wp2
            go_ret
            exact ⟨by rw [← HR.out]; rfl, HB3.out⟩
          · have HP : P = 0 := by rw [HP0.out, if_neg (by omega)]
            have HR : Hid (F = T) := Lib.hid (by rw [← HJ2.out, HP, orE_z])
            have dx : decide (x > 0) = false := decide_eq_false hx1
            clear HJ2 HP HP0 k1 k2 k3 hk0 hx1
            go_wp2_with fail
            refine (between_any _ _ _ _).mono ?_
            rintro r w4 ⟨rfl, rfl⟩
            rw [dn]
            clear dn
            go_wp2
            go_roundw
            case rel => exact ⟨j + 1, by go_num, by omega, Lib.hid (by rw [hF]; exact HR.out), HW3⟩
            case measure => simp [intOf]; omega
        · have e2 : (qk == 2) = false := by simpa using k2
          have e3 : (qk == 3) = true := by rw [show qk = 3 by omega]; rfl
          by_cases hx1 : x = 0
          · have HP : P = 7 := by rw [HP0.out, if_pos (by omega)]
            have HR : Hid (7 = T) := Lib.hid (by rw [← HJ2.out, HP, orE_n (by decide)])
            have dx : (x == 0) = true := by rw [hx1]; rfl
            clear HJ2 HP HP0 k1 k2 k3 hk0 hx1
            go_wp2_with fail
            refine (between_any _ _ _ _).mono ?_
            rintro r w4 ⟨rfl, rfl⟩
            rw [dn]
            clear dn
            go_wp2
            go_ret
            exact ⟨by rw [← HR.out]; rfl, HB3.out⟩
          · have HP : P = 0 := by rw [HP0.out, if_neg (by omega)]
            have HR : Hid (F = T) := Lib.hid (by rw [← HJ2.out, HP, orE_z])
            have dx : (x == 0) = false := by simpa using hx1
            clear HJ2 HP HP0 k1 k2 k3 hk0 hx1
            go_wp2_with fail
            refine (between_any _ _ _ _).mono ?_
            rintro r w4 ⟨rfl, rfl⟩
            rw [dn]
            clear dn
            go_wp2
            go_roundw
            case rel => exact ⟨j + 1, by go_num, by omega, Lib.hid (by rw [hF]; exact HR.out), HW3⟩
            case measure => simp [intOf]; omega
      · have dn : decide (0 ≤ qn ∧ qn ≤ (z.length : Int) - 1) = false := decide_eq_false hn
        have HP : P = 5 := by rw [HPQ.out, if_neg h1, if_neg h2, if_neg k1, if_pos k3, if_neg (by omega)]
        have HR : Hid (5 = T) := Lib.hid (by rw [← HJ2.out, HP, orE_n (by decide)])
        clear hA0 HPQ HJ2 HP HZ h1 h2 k1 k3 hk0 hn
        go_wp2_with fail
        refine (between_any _ _ _ _).mono ?_
        rintro r w4 ⟨rfl, rfl⟩
        rw [dn]
        clear dn
        go_wp2
        go_ret
        exact ⟨by rw [← HR.out]; rfl, HB3.out⟩
    have dk : decide (qk ≤ 3) = false := decide_eq_false k3
    by_cases hn : qn = 0
    · have HP : P = 0 := by rw [HPQ.out, if_neg h1, if_neg h2, if_neg k1, if_neg k3, if_neg (by omega)]
      have HR : Hid (F = T) := Lib.hid (by rw [← HJ2.out, HP, orE_z])
      have dn : (qn != 0) = false := by rw [hn]; rfl
      clear hA0 HPQ HJ2 HP HZ h1 h2 k1 k3 hn
      go_wp2
      go_roundw
      case rel => exact ⟨j + 1, by go_num, by omega, Lib.hid (by rw [hF]; exact HR.out), HW3⟩
      case measure => simp [intOf]; omega
    · have HP : P = 3 := by rw [HPQ.out, if_neg h1, if_neg h2, if_neg k1, if_neg k3, if_pos hn]
      have HR : Hid (3 = T) := Lib.hid (by rw [← HJ2.out, HP, orE_n (by decide)])
      have dn : (qn != 0) = true := by simpa using hn
      clear hA0 HPQ HJ2 HP HZ h1 h2 k1 k3 hn
      go_wp2
      go_ret
      exact ⟨by rw [← HR.out]; rfl, HB3.out⟩
end Go.Proofs.Ytgkpplbomciehaa
