/- How many commands there are, by the document: walked. Each lemma states its own conditions. -/
import Derived.Test.YtgkpplbomciehaaCdt21
namespace Go.Proofs.Ytgkpplbomciehaa
open Go.RowKit
/-- so many, up to 41; 41 if they stand too deep -/
def capM (l : List PC) (d n : Int) : Int := if l ≠ [] ∧ 5 < d then 41 else if 41 < n then 41 else n
mutual
def PC.many : PC → Int → Int
  | .mk _ _ _ _ _ _ thn els, d => 1 + capM thn (d + 1) (manyG thn (d + 1) 0) + capM els (d + 1) (manyG els (d + 1) 0)
def manyG : List PC → Int → Int → Int
  | [], _, n => n
  | x :: xs, d, n => if 40 < n then n else manyG xs d (n + x.many d)
end
def manyR (l : List PC) (d : Int) : Int := capM l d (manyG l d 0)
theorem PC.many_eq (x : PC) (d : Int) : x.many d = 1 + manyR x.thn (d + 1) + manyR x.els (d + 1) := by
  obtain ⟨k, v, g, i, e, args, thn, els⟩ := x
  rw [PC.many]; rfl
theorem capM_le (l : List PC) (d n : Int) : capM l d n ≤ 41 := by unfold capM; split; omega; split <;> omega
theorem manyG_nn {l : List PC} (h : ∀ x ∈ l, ∀ d, 0 ≤ x.many d) : ∀ d n, 0 ≤ n → n ≤ manyG l d n := by
  induction l with
  | nil => intro d n hn; rw [manyG]; omega
  | cons x xs ih =>
    intro d n hn
    rw [manyG]
    split
    · omega
    · have h1 := h x (by simp) d
      have := ih (fun y hy => h y (by simp [hy])) d (n + x.many d) (by omega)
      omega
theorem capM_nn {l : List PC} {d n : Int} (h : 0 ≤ n) : 0 ≤ capM l d n := by unfold capM; split; omega; split <;> omega
theorem PC.many_nn : ∀ x : PC, ∀ d, 0 ≤ x.many d :=
  PC.ind fun k v f i e args thn els h1 h2 d => by
    rw [PC.many]
    have a := capM_nn (l := thn) (d := d + 1) (manyG_nn h1 (d + 1) 0 (by omega))
    have b := capM_nn (l := els) (d := d + 1) (manyG_nn h2 (d + 1) 0 (by omega))
    omega
theorem manyR_in (l : List PC) (d : Int) : 0 ≤ manyR l d ∧ manyR l d ≤ 41 := ⟨capM_nn (manyG_nn (fun x _ => PC.many_nn x) d 0 (by omega)), capM_le _ _ _⟩
/-- .. which is what there are, if none stands too deep -/
theorem manyG_is {l : List PC} {d : Int} (hd : d ≤ 5) (h : ∀ x ∈ l, (x.fine d = true → x.many d = x.cnt ∨ (40 < x.many d ∧ 40 < x.cnt)) ∧ (x.fine d = false → 40 < x.many d)) :
    ∀ n, 0 ≤ n → (fineP l d = true → manyG l d n = n + cntP l ∨ (40 < manyG l d n ∧ 40 < n + cntP l)) ∧ (fineP l d = false → 40 < manyG l d n) := by
  induction l with
  | nil => intro n hn; exact ⟨fun _ => Or.inl (by rw [manyG, cntP]; simp), fun h => by rw [fineP] at h; cases h⟩
  | cons x xs ih =>
    intro n hn
    have hx := h x (by simp)
    have hnn := PC.many_nn x d
    rw [fineP_cons, decide_eq_true hd, Bool.true_and, manyG, cntP]
    by_cases h4 : 40 < n
    · rw [if_pos h4]
      exact ⟨fun _ => Or.inr ⟨h4, by omega⟩, fun _ => h4⟩
    rw [if_neg h4]
    have ih2 := ih (fun y hy => h y (by simp [hy])) (n + x.many d) (by omega)
    have hge := manyG_nn (l := xs) (fun y _ => PC.many_nn y) d (n + x.many d) (by omega)
    cases hf : x.fine d with
    | false =>
      have := hx.2 hf
      exact ⟨fun h => by simp at h, fun _ => by omega⟩
    | true =>
      rw [Bool.true_and]
      refine ⟨fun hfx => ?_, fun hfx => ih2.2 hfx⟩
      rcases hx.1 hf with h1 | ⟨h1, h2⟩
      · rcases ih2.1 hfx with h3 | ⟨h3, h5⟩
        · left; rw [h3, h1]; omega
        · right; exact ⟨h3, by rw [h1] at h5; omega⟩
      · right; exact ⟨by omega, by omega⟩
theorem manyR_is {l : List PC} {d : Int} (h0 : 0 ≤ d) (h6 : d ≤ 6) (h : ∀ x ∈ l, d ≤ 5 → (x.fine d = true → x.many d = x.cnt ∨ (40 < x.many d ∧ 40 < x.cnt)) ∧ (x.fine d = false → 40 < x.many d)) :
    (fineP l d = true → (manyR l d = cntP l ∧ cntP l ≤ 41) ∨ (40 < manyR l d ∧ 40 < cntP l)) ∧ (fineP l d = false → 40 < manyR l d) := by
  unfold manyR capM
  by_cases hd : d ≤ 5
  · rw [if_neg (by omega)]
    obtain ⟨a, b⟩ := manyG_is hd (fun x hx => h x hx hd) 0 (by omega)
    refine ⟨fun hf => ?_, fun hf => ?_⟩
    · rcases a hf with h1 | ⟨h1, h2⟩
      · rw [Int.zero_add] at h1
        rw [h1]
        split
        · right; exact ⟨by omega, by omega⟩
        · left; exact ⟨rfl, by omega⟩
      · right
        refine ⟨?_, by omega⟩
        split <;> omega
    · have := b hf
      split <;> omega
  · cases l with
    | nil => exact ⟨fun _ => Or.inl (by simp [manyG, cntP]), fun hf => by rw [fineP] at hf; cases hf⟩
    | cons x xs =>
      rw [if_pos ⟨by simp, by omega⟩]
      exact ⟨fun hf => by rw [fineP_cons, decide_eq_false hd] at hf; simp at hf, fun _ => by omega⟩
theorem PC.many_is : ∀ x : PC, ∀ d, 0 ≤ d → d ≤ 5 → (x.fine d = true → x.many d = x.cnt ∨ (40 < x.many d ∧ 40 < x.cnt)) ∧ (x.fine d = false → 40 < x.many d) :=
  PC.ind fun k v f i e args thn els h1 h2 d h0 h5 => by
    have a := manyR_is (l := thn) (d := d + 1) (by omega) (by omega) fun x hx h => h1 x hx (d + 1) (by omega) h
    have b := manyR_is (l := els) (d := d + 1) (by omega) (by omega) fun x hx h => h2 x hx (d + 1) (by omega) h
    have n1 := manyR_in thn (d + 1)
    have n2 := manyR_in els (d + 1)
    rw [PC.many_eq, PC.fine_eq, PC.cnt_eq]
    simp only [PC.thn, PC.els]
    cases hf1 : fineP thn (d + 1) with
    | false =>
      have := a.2 hf1
      exact ⟨fun h => by simp at h, fun _ => by omega⟩
    | true =>
      cases hf2 : fineP els (d + 1) with
      | false =>
        have := b.2 hf2
        exact ⟨fun h => by simp at h, fun _ => by omega⟩
      | true =>
        refine ⟨fun _ => ?_, fun h => by simp at h⟩
        rcases a.1 hf1 with h3 | h3 <;> rcases b.1 hf2 with h4 | h4
        · left; omega
        · right; omega
        · right; omega
        · right; omega
theorem manyR_fine (l : List PC) : (fineP l 1 = true → (manyR l 1 = cntP l ∧ cntP l ≤ 41) ∨ (40 < manyR l 1 ∧ 40 < cntP l)) ∧ (fineP l 1 = false → 40 < manyR l 1) :=
  manyR_is (by omega) (by omega) fun x _ h => PC.many_is x 1 (by omega) h
theorem manyG_drop {l : List PC} {j : Nat} {x : PC} (hx : l[j]? = some x) (d n : Int) : manyG (l.drop j) d n = if 40 < n then n else manyG (l.drop (j + 1)) d (n + x.many d) := by
  obtain ⟨hl, rfl⟩ := List.getElem?_eq_some_iff.1 hx
  rw [List.drop_eq_getElem_cons hl, manyG]
theorem manyG_over (l : List PC) (d : Int) {n : Int} (h : 40 < n) : manyG l d n = n := by
  cases l with
  | nil => rw [manyG]
  | cons x xs => rw [manyG, if_pos h]
def ManyIs (l : List PC) : Prop := ∀ (d : Int) (v : Value) (W : World), 1 ≤ d → d ≤ 6 → Sl pcR W v l → Calls Try.prog 54 #[v, .int .i64 d] W fun r w' => r = .returned (.int .i64 (manyR l d)) ∧ Bel W w'
section
variable {o : Oper} {ρ : Operand → Value} {W : World} {x y : Operand} {t2 : TypeId} {b f : Nat} {v : Value}
theorem rb_add64 {k l m : Int} (ho : o.op = .binOp .add 3 x y t2) (hx : ρ x = .int .i64 k) (hy : ρ y = .int .i64 l) (h0 : -9223372036854775808 ≤ k + l) (h1 : k + l ≤ 9223372036854775807) (hm : k + l = m) : (execOp ρ o).run Try.prog W = .ok (.value (.int .i64 m)) W := by
  subst hm
  have hw : IntKind.i64.wrap (k + l) = k + l := by rw [IntKind.wrap_i64]; omega
  simp [execOp, ho, hx, hy, hw, go_sem]
end
set_option maxRecDepth 20000 in
set_option maxHeartbeats 4000000 in
theorem many_step (l : List PC) (h : ∀ x ∈ l, ManyIs x.thn ∧ ManyIs x.els) : ManyIs l := by
  intro d v w hd1 hd6 hs
  have HM := Lib.hid h
  have HSL := Lib.hid hs
  obtain ⟨A, c, rfl, hll⟩ := sl_lit hs
  have HR : Hid (manyR l d = if l ≠ [] ∧ 5 < d then 41 else if 41 < manyG l d 0 then 41 else manyG l d 0) := Lib.hid rfl
  clear h hs
  generalize manyR l d = T at *
  go_enter Try.func54, Try.ntmps54
  by_cases hl0 : 0 < l.length
  rotate_left
  · obtain rfl : l = [] := List.eq_nil_of_length_eq_zero (by omega)
    have HT : Hid (T = 0) := Lib.hid (by rw [HR.out, if_neg (by simp)]; rfl)
    clear HR HM
    simp only [List.length_nil]
    go_wp2
    go_loopw [5, 6] (fun n i wr => n = .int .i64 0 ∧ i = .int .i64 0 ∧ Hid (Bel w wr)) (fun _ i _ => 0 - (intOf i).toNat)
    case atStart => exact ⟨rfl, rfl, Lib.hid (Bel.rfl_ w)⟩
    case round =>
      obtain ⟨rfl, rfl, HB⟩ := hrel
      go_wp2
      go_ret
      exact ⟨by rw [HT.out]; rfl, HB.out⟩
  have dl : decide ((l.length : Int) > 0) = true := decide_eq_true (by omega)
  have hne : l ≠ [] := by rintro rfl; simp at hl0
  by_cases h5 : d > 5
  · have d5 : decide (d > 5) = true := decide_eq_true h5
    have HT : Hid (T = 41) := Lib.hid (by rw [HR.out, if_pos ⟨hne, h5⟩])
    clear HR HM h5
    go_wp2
    go_ret
    exact ⟨by rw [HT.out]; rfl, Bel.rfl_ _⟩
  have d5 : decide (d > 5) = false := decide_eq_false h5
  have HT : Hid (T = if 41 < manyG l d 0 then 41 else manyG l d 0) := Lib.hid (by rw [HR.out, if_neg (by omega)])
  have HG0 : Hid (manyG (l.drop 0) d 0 = manyG l d 0) := Lib.hid rfl
  have HB0 := Lib.hid (Bel.rfl_ w)
  generalize manyG l d 0 = G at *
  clear HR dl
  go_wp2
  go_loopw [5, 6] (fun n i wr => ∃ (j : Nat) (m : Int), i = .int .i64 j ∧ n = .int .i64 m ∧ j ≤ l.length ∧ 0 ≤ m ∧ m ≤ 200 ∧ Hid (manyG (l.drop j) d m = G) ∧ Hid (Bel w wr)) (fun _ i _ => l.length - (intOf i).toNat)
  case atStart => exact ⟨0, 0, rfl, rfl, Nat.zero_le _, by omega, by omega, HG0, HB0⟩
  case round =>
    obtain ⟨j, m, rfl, rfl, hj, hm0, hm1, HG, HB⟩ := hrel
    obtain ⟨WO, hWO⟩ : ∃ W, W = wr := ⟨_, rfl⟩
    subst hWO
    clear HG0 HB0
    have fin : (j = l.length ∨ 40 < m) → G = m := fun h => by
      rw [← HG.out]
      rcases h with h | h
      · rw [List.drop_eq_nil_of_le (by omega), manyG]
      · exact manyG_over _ _ h
    by_cases hlt : j < l.length
    rotate_left
    · have hdd : decide ((j : Int) < l.length) = false := decide_eq_false (by omega)
      have HGM := Lib.hid (fin (Or.inl (by omega)))
      clear fin HG
      by_cases h41 : m > 41
      · have d41 : decide (m > 41) = true := decide_eq_true h41
        have HT2 : Hid (T = 41) := Lib.hid (by rw [HT.out, HGM.out, if_pos h41])
        clear HT HGM h41
        go_wp2
        go_ret
        exact ⟨by rw [HT2.out]; rfl, HB.out⟩
      · have d41 : decide (m > 41) = false := decide_eq_false h41
        have HT2 : Hid (T = m) := Lib.hid (by rw [HT.out, HGM.out, if_neg h41])
        clear HT HGM h41
        go_wp2
        go_ret
        exact ⟨by rw [HT2.out]; rfl, HB.out⟩
    have hdd : decide ((j : Int) < l.length) = true := decide_eq_true (by omega)
    by_cases h40 : m ≤ 40
    rotate_left
    · have d40 : decide (m ≤ 40) = false := decide_eq_false h40
      have HGM := Lib.hid (fin (Or.inr (by omega)))
      clear fin HG
      by_cases h41 : m > 41
      · have d41 : decide (m > 41) = true := decide_eq_true h41
        have HT2 : Hid (T = 41) := Lib.hid (by rw [HT.out, HGM.out, if_pos h41])
        clear HT HGM h41
        go_wp2
        go_ret
        exact ⟨by rw [HT2.out]; rfl, HB.out⟩
      · have d41 : decide (m > 41) = false := decide_eq_false h41
        have HT2 : Hid (T = m) := Lib.hid (by rw [HT.out, HGM.out, if_neg h41])
        clear HT HGM h41
        go_wp2
        go_ret
        exact ⟨by rw [HT2.out]; rfl, HB.out⟩
    have d40 : decide (m ≤ 40) = true := decide_eq_true h40
    clear fin
    obtain ⟨x, hx⟩ : ∃ x, l[j]? = some x := ⟨_, List.getElem?_eq_getElem hlt⟩
    obtain ⟨b, o, cs, rfl, hcs, hca⟩ := HSL.out.elem hx
    obtain ⟨vi, ve, va, vt, vs, hq, -, -, -, hT, hE⟩ := pcCells hcs
    have HG2 : Hid (manyG (l.drop (j + 1)) d (m + (1 + manyR x.thn (d + 1) + manyR x.els (d + 1))) = G) := Lib.hid (by rw [← HG.out, manyG_drop hx, if_neg (by omega), PC.many_eq])
    have HMT := Lib.hid (fun W (hb : Bel w W) => (HM.out x (List.mem_of_getElem? hx)).1 (d + 1) vt W (by omega) (by omega) (hT.keep hb))
    have HME := Lib.hid (fun W (hb : Bel w W) => (HM.out x (List.mem_of_getElem? hx)).2 (d + 1) vs W (by omega) (by omega) (hE.keep hb))
    have b1 := manyR_in x.thn (d + 1)
    have b2 := manyR_in x.els (d + 1)
    have c6 := hca 10 vt (by rw [hq]; rfl)
    have c7 := hca 11 vs (by rw [hq]; rfl)
    have C6 := HB.out.cell c6
    have C7 := HB.out.cell c7
    have i0 : (0 : Int) ≤ j := by omega
    have i1 : (j : Int) < l.length := by omega
    obtain ⟨At, ct, rfl, -⟩ := sl_lit hT
    obtain ⟨Ae, ce, rfl, -⟩ := sl_lit hE
    clear HG hcs hca hq hT hE hx c6 c7
    generalize hmt : manyR x.thn (d + 1) = mt at *
    generalize hme : manyR x.els (d + 1) = me at *
    clear hmt hme
    simp only [pcR] at C6 C7
    go_upto_region 7 with fail
    refine wp_region_held_drew (S := fun W => Bel WO W) (by kernel_rfl) ((Bel.rfl_ WO).dr) (fun hS => ?_)
    refine rt_take (i := 0) (some 24) (.int .i64 m) rfl rfl (by kernel_rfl) (by kernel_rfl) (by kernel_rfl) (fun _ _ _ h => h) (by kernel_rfl) hS (fun W _ => by kernel_rfl) ?_
    refine rt_take (i := 1) (some 25) (.slice (some ⟨b, o, none⟩) l.length c) rfl rfl (by kernel_rfl) (by kernel_rfl) (by kernel_rfl) (fun _ _ _ h => h) (by kernel_rfl) hS (fun W _ => by kernel_rfl) ?_
    refine rt_take (i := 2) (some 26) (.int .i64 j) rfl rfl (by kernel_rfl) (by kernel_rfl) (by kernel_rfl) (fun _ _ _ h => h) (by kernel_rfl) hS (fun W _ => by kernel_rfl) ?_
    refine rt_take (i := 3) (some 27) (.pointer (some ⟨b, o + j * 12, none⟩)) rfl rfl (by kernel_rfl) (by kernel_rfl) (by kernel_rfl) (fun _ _ _ h => h) (by kernel_rfl) hS (fun W _ => by go_simp) ?_
    refine rt_take (i := 4) (some 28) (.pointer (some ⟨b, o + j * 12 + 10, none⟩)) rfl rfl (by kernel_rfl) (by kernel_rfl) (by kernel_rfl) (fun _ _ _ h => h) (by kernel_rfl) hS (fun W _ => by kernel_rfl) ?_
    refine rt_take (i := 5) (some 29) (.slice At x.thn.length ct) rfl rfl (by kernel_rfl) (by kernel_rfl) (by kernel_rfl) (fun _ _ _ h => h) (by kernel_rfl) hS (fun W hb => rl_cs rfl (by kernel_rfl) (hb.cell C6)) ?_
    refine rt_take (i := 6) (some 30) (.int .i64 d) rfl rfl (by kernel_rfl) (by kernel_rfl) (by kernel_rfl) (fun _ _ _ h => h) (by kernel_rfl) hS (fun W _ => by kernel_rfl) ?_
    refine rt_take (i := 7) (some 31) (.int .i64 (d + 1)) rfl rfl (by kernel_rfl) (by kernel_rfl) (by kernel_rfl) (fun _ _ _ h => h) (by kernel_rfl) hS (fun W _ => rb_add64 (k := d) (l := 1) rfl (by kernel_rfl) (by kernel_rfl) (by omega) (by omega) rfl) ?_
    refine rt_take (i := 10) (some 34) (.slice (some ⟨b, o, none⟩) l.length c) rfl rfl (by kernel_rfl) (by kernel_rfl) (by kernel_rfl) (fun _ _ _ h => h) (by kernel_rfl) hS (fun W _ => by kernel_rfl) ?_
    refine rt_take (i := 11) (some 35) (.int .i64 j) rfl rfl (by kernel_rfl) (by kernel_rfl) (by kernel_rfl) (fun _ _ _ h => h) (by kernel_rfl) hS (fun W _ => by kernel_rfl) ?_
    refine rt_take (i := 12) (some 36) (.pointer (some ⟨b, o + j * 12, none⟩)) rfl rfl (by kernel_rfl) (by kernel_rfl) (by kernel_rfl) (fun _ _ _ h => h) (by kernel_rfl) hS (fun W _ => by go_simp) ?_
    refine rt_take (i := 13) (some 37) (.pointer (some ⟨b, o + j * 12 + 11, none⟩)) rfl rfl (by kernel_rfl) (by kernel_rfl) (by kernel_rfl) (fun _ _ _ h => h) (by kernel_rfl) hS (fun W _ => by kernel_rfl) ?_
    refine rt_take (i := 14) (some 38) (.slice Ae x.els.length ce) rfl rfl (by kernel_rfl) (by kernel_rfl) (by kernel_rfl) (fun _ _ _ h => h) (by kernel_rfl) hS (fun W hb => rl_cs rfl (by kernel_rfl) (hb.cell C7)) ?_
    refine rt_take (i := 15) (some 39) (.int .i64 d) rfl rfl (by kernel_rfl) (by kernel_rfl) (by kernel_rfl) (fun _ _ _ h => h) (by kernel_rfl) hS (fun W _ => by kernel_rfl) ?_
    refine rt_take (i := 16) (some 40) (.int .i64 (d + 1)) rfl rfl (by kernel_rfl) (by kernel_rfl) (by kernel_rfl) (fun _ _ _ h => h) (by kernel_rfl) hS (fun W _ => rb_add64 (k := d) (l := 1) rfl (by kernel_rfl) (by kernel_rfl) (by omega) (by omega) rfl) ?_
    refine rt_call (i := 8) (some 32) (by kernel_rfl) rfl rfl (by kernel_rfl) 54 #[.slice At x.thn.length ct, .int .i64 (d + 1)] (by kernel_rfl) (HMT.out _ (HB.out.tr hS)) ?_
    rintro x1 W9 ⟨rfl, hb⟩
    refine ⟨_, rfl, hS.tr hb, fun hS => ?_⟩
    refine rt_take (i := 9) (some 33) (.int .i64 (1 + mt)) rfl rfl (by kernel_rfl) (by kernel_rfl) (by kernel_rfl) (fun _ _ _ h => h) (by kernel_rfl) hS (fun W _ => rb_add64 (k := 1) (l := mt) rfl (by kernel_rfl) (by kernel_rfl) (by omega) (by omega) rfl) ?_
    refine rt_call (i := 17) (some 41) (by kernel_rfl) rfl rfl (by kernel_rfl) 54 #[.slice Ae x.els.length ce, .int .i64 (d + 1)] (by kernel_rfl) (HME.out _ (HB.out.tr hS)) ?_
    rintro x1 W10 ⟨rfl, hb⟩
    refine ⟨_, rfl, hS.tr hb, fun hS => ?_⟩
    refine rt_take (i := 18) (some 42) (.int .i64 ((1 + mt) + me)) rfl rfl (by kernel_rfl) (by kernel_rfl) (by kernel_rfl) (fun _ _ _ h => h) (by kernel_rfl) hS (fun W _ => rb_add64 (k := 1 + mt) (l := me) rfl (by kernel_rfl) (by kernel_rfl) (by omega) (by omega) rfl) ?_
    refine rt_take (i := 19) (some 43) (.int .i64 (m + ((1 + mt) + me))) rfl rfl (by kernel_rfl) (by kernel_rfl) (by kernel_rfl) (fun _ _ _ h => h) (by kernel_rfl) hS (fun W _ => rb_add64 (k := m) (l := ((1 + mt) + me)) rfl (by kernel_rfl) (by kernel_rfl) (by omega) (by omega) rfl) ?_
    refine rt_take (i := 20) (some 5) (.int .i64 (m + ((1 + mt) + me))) rfl rfl (by kernel_rfl) (by kernel_rfl) (by kernel_rfl) (fun _ _ _ h => h) (by kernel_rfl) hS (fun W _ => by kernel_rfl) ?_
    refine wpAnyH_done (by kernel_rfl) ?_ _
    try simp only [Act.put, List.setIfInBounds_toArray, List.set_cons_zero, List.set_cons_succ]
    have HB2 := Lib.hid (HB.out.tr hS)
    clear hS C6 C7
    go_wp2
    go_roundw
    case rel => exact ⟨j + 1, m + (1 + mt + me), by go_num, rfl, by omega, by omega, by omega, HG2, HB2⟩
    case measure => simp [intOf]; omega
theorem manyCmds_any (l : List PC) : ManyIs l := many_step l fun x _ => (PC.ind (p := fun x => ManyIs x.thn ∧ ManyIs x.els) (fun _k _v _f _i _e _args thn els h1 h2 => ⟨many_step thn h1, many_step els h2⟩)) x
set_option maxRecDepth 20000 in
theorem noneExpr_any (e : PE) (val : Value) (w : World) (h : PEV w e val) : Calls Try.prog 56 #[val] w fun r w' => r = .returned (.bool e.none_) ∧ Bel w w' := by
  obtain ⟨v, rfl, hv⟩ := h
  obtain ⟨A, c, rfl, -⟩ := sl_lit hv
  have HN : Hid (e.none_ = (decide (e.kind = 0) && decide (e.n = 0) && decide (e.args.length = 0))) := Lib.hid rfl
  have HB : Hid (Bel w (w.alloc (.cells #[.int .i64 e.kind, .int .i64 e.n, .slice A e.args.length c] 47))) := Lib.hid ((Bel.rfl_ w).al _)
  clear hv
  generalize e.none_ = T at *
  generalize e.kind = k at *
  generalize e.n = n at *
  generalize e.args.length = m at *
  go_enter Try.func56, Try.ntmps56
  by_cases h0 : k = 0
  rotate_left
  · have d0 : (k == 0) = false := by simpa using h0
    have HR : Hid (T = false) := Lib.hid (by rw [HN.out, decide_eq_false h0]; rfl)
    clear HN h0
    go_wp2
    go_ret
    exact ⟨by rw [HR.out]; rfl, HB.out⟩
  subst h0
  by_cases h1 : n = 0
  rotate_left
  · have d0 : (n == 0) = false := by simpa using h1
    have HR : Hid (T = false) := Lib.hid (by rw [HN.out, decide_eq_false h1]; rfl)
    clear HN h1
    go_wp2
    go_ret
    exact ⟨by rw [HR.out]; rfl, HB.out⟩
  subst h1
  by_cases h2 : m = 0
  · subst h2
    have HR : Hid (T = true) := Lib.hid HN.out
    clear HN
    go_wp2
    go_ret
    exact ⟨by rw [HR.out]; rfl, HB.out⟩
  · have d0 : ((m : Int) == 0) = false := by rw [beq_eq_false_iff_ne]; omega
    have HR : Hid (T = false) := Lib.hid (by rw [HN.out, decide_eq_false h2]; rfl)
    clear HN h2
    go_wp2
    go_ret
    exact ⟨by rw [HR.out]; rfl, HB.out⟩
end Go.Proofs.Ytgkpplbomciehaa
