/- Is one of a list's numbers such a one; what a function's head is, by the program: walked. Each lemma states its own conditions. -/
import Derived.Test.YtgkpplbomciehaaCdt14
namespace Go.Proofs.Ytgkpplbomciehaa
open Go.RowKit
theorem any_drop {α : Type} {p : α → Bool} {l : List α} {k : Nat} {x : α} (hx : l[k]? = some x) : (l.drop k).any p = (p x || (l.drop (k + 1)).any p) := by
  obtain ⟨hl, rfl⟩ := List.getElem?_eq_some_iff.1 hx
  rw [List.drop_eq_getElem_cons hl, List.any_cons]
/-- what a closure says of a number -/
def Says (F : Nat) (p : Int → Bool) : Prop := ∀ (x : Int) (W : World), Calls Try.prog F #[.int .i64 x] W fun r w' => r = .returned (.bool (p x)) ∧ Bel W w'
set_option maxRecDepth 20000 in
set_option maxHeartbeats 4000000 in
theorem index_h1 (p : Int → Bool) (l : List Int) (v : Value) (w : World) (h : Sl intR w v l) (IH : Says 151 p) :
    Calls Try.prog 108 #[v, .func (.func 151) #[] #[]] w fun r w' => ∃ k : Int, r = .returned (.int .i64 k) ∧ decide (0 ≤ k) = l.any p ∧ Bel w w' := by
  have HSL := Lib.hid h
  have HI := Lib.hid IH
  have HT : Hid ((l.drop 0).any p = l.any p) := Lib.hid rfl
  generalize l.any p = T at *
  obtain ⟨A, c, rfl, hll⟩ := sl_lit h
  have HRF := Lib.hid (Bel.rfl_ w)
  clear IH h
  go_enter Try.func108, Try.ntmps108
  go_wp2
  go_loopw [8] (fun i wr => ∃ j : Nat, i = .int .i64 j ∧ j ≤ l.length ∧ Hid ((l.drop j).any p = T) ∧ Hid (Bel w wr)) (fun i _ => l.length - (intOf i).toNat)
  case atStart => exact ⟨0, rfl, Nat.zero_le _, HT, HRF⟩
  case round =>
    obtain ⟨j, rfl, hj, HS, HB⟩ := hrel
    clear HT HRF
    by_cases hlt : j < l.length
    rotate_left
    · have hdd : decide ((j : Int) < l.length) = false := decide_eq_false (by omega)
      have HR : Hid (false = T) := Lib.hid (by rw [← HS.out, List.drop_eq_nil_of_le (by omega)]; rfl)
      go_wp2
      go_ret
      exact ⟨-1, rfl, by rw [← HR.out]; rfl, HB.out⟩
    have hdd : decide ((j : Int) < l.length) = true := decide_eq_true (by omega)
    obtain ⟨x, hx⟩ : ∃ x, l[j]? = some x := ⟨_, List.getElem?_eq_getElem hlt⟩
    obtain ⟨b, o, rfl, hA⟩ := (HSL.out.keep HB.out).lies (by omega)
    have HCA := Lib.hid (intR.cell hA hx)
    have HD : Hid ((p x || (l.drop (j + 1)).any p) = T) := Lib.hid (by rw [← any_drop hx]; exact HS.out)
    have i0 : (0 : Int) ≤ j := by omega
    have i1 : (j : Int) < l.length := by omega
    clear hx HS hA
    go_upto_region 4 with fail
    refine wl_region ?_
    try dsimp only [List.append]
    refine wl_do (some 11) (.func (.func 151) #[] #[]) rfl (by kernel_rfl) (by kernel_rfl) ?_
    refine wl_do (some 12) (.slice (some ⟨b, o, none⟩) l.length c) rfl (by kernel_rfl) (by kernel_rfl) ?_
    refine wl_do (some 13) (.int .i64 j) rfl (by kernel_rfl) (by kernel_rfl) ?_
    refine wl_do (some 14) (.pointer (some ⟨b, o + j, none⟩)) rfl (by kernel_rfl) (by go_simp) ?_
    refine wl_do (some 15) (.int .i64 x) rfl (by kernel_rfl) (rl_int rfl (by kernel_rfl) HCA.out) ?_
    refine wl_call (some 16) rfl (by kernel_rfl) 151 #[.int .i64 x] (by kernel_rfl) (HI.out x _) ?_
    rintro r W3 ⟨rfl, hb⟩
    replace HB := Lib.hid (HB.out.tr hb)
    clear hb
    refine ⟨_, rfl, ?_⟩
    generalize p x = sm at *
    refine wl_nil ?_
    try simp only [Act.put, List.setIfInBounds_toArray, List.set_cons_zero, List.set_cons_succ]
    cases sm with
    | false =>
      have HD2 : Hid ((l.drop (j + 1)).any p = T) := Lib.hid (by rw [← HD.out, Bool.false_or])
      go_wp2
      go_roundw
      case rel => exact ⟨j + 1, by go_num, by omega, HD2, HB⟩
      case measure => simp [intOf]; omega
    | true =>
      have HD2 : Hid (true = T) := Lib.hid (by rw [← HD.out, Bool.true_or])
      go_wp2
      go_ret
      exact ⟨j, rfl, by rw [← HD2.out]; exact decide_eq_true i0, HB.out⟩
theorem contains_h1 (p : Int → Bool) (l : List Int) (v : Value) (w : World) (h : Sl intR w v l) (IH : Says 151 p) :
    Calls Try.prog 59 #[v, .func (.func 151) #[] #[]] w fun r w' => r = .returned (.bool (l.any p)) ∧ Bel w w' := by
  have HC := Lib.hid (index_h1 p l v w h IH)
  obtain ⟨A, c, rfl, -⟩ := h
  generalize l.any p = T at *
  clear IH
  go_enter Try.func59, Try.ntmps59
  go_wp2_with fail
  refine HC.out.mono ?_
  rintro r w1 ⟨k, rfl, hk, hb⟩
  have hk2 : decide (0 ≤ k) = T := hk
  have HB := Lib.hid hb
  clear hb HC hk
  cases T with
  | true =>
    go_wp2
    go_ret
    exact ⟨rfl, HB.out⟩
  | false =>
    go_wp2
    go_ret
    exact ⟨rfl, HB.out⟩
set_option maxRecDepth 20000 in
set_option maxHeartbeats 4000000 in
theorem index_h2 (p : Int → Bool) (l : List Int) (v : Value) (w : World) (h : Sl intR w v l) (IH : Says 152 p) :
    Calls Try.prog 108 #[v, .func (.func 152) #[] #[]] w fun r w' => ∃ k : Int, r = .returned (.int .i64 k) ∧ decide (0 ≤ k) = l.any p ∧ Bel w w' := by
  have HSL := Lib.hid h
  have HI := Lib.hid IH
  have HT : Hid ((l.drop 0).any p = l.any p) := Lib.hid rfl
  generalize l.any p = T at *
  obtain ⟨A, c, rfl, hll⟩ := sl_lit h
  have HRF := Lib.hid (Bel.rfl_ w)
  clear IH h
  go_enter Try.func108, Try.ntmps108
  go_wp2
  go_loopw [8] (fun i wr => ∃ j : Nat, i = .int .i64 j ∧ j ≤ l.length ∧ Hid ((l.drop j).any p = T) ∧ Hid (Bel w wr)) (fun i _ => l.length - (intOf i).toNat)
  case atStart => exact ⟨0, rfl, Nat.zero_le _, HT, HRF⟩
  case round =>
    obtain ⟨j, rfl, hj, HS, HB⟩ := hrel
    clear HT HRF
    by_cases hlt : j < l.length
    rotate_left
    · have hdd : decide ((j : Int) < l.length) = false := decide_eq_false (by omega)
      have HR : Hid (false = T) := Lib.hid (by rw [← HS.out, List.drop_eq_nil_of_le (by omega)]; rfl)
      go_wp2
      go_ret
      exact ⟨-1, rfl, by rw [← HR.out]; rfl, HB.out⟩
    have hdd : decide ((j : Int) < l.length) = true := decide_eq_true (by omega)
    obtain ⟨x, hx⟩ : ∃ x, l[j]? = some x := ⟨_, List.getElem?_eq_getElem hlt⟩
    obtain ⟨b, o, rfl, hA⟩ := (HSL.out.keep HB.out).lies (by omega)
    have HCA := Lib.hid (intR.cell hA hx)
    have HD : Hid ((p x || (l.drop (j + 1)).any p) = T) := Lib.hid (by rw [← any_drop hx]; exact HS.out)
    have i0 : (0 : Int) ≤ j := by omega
    have i1 : (j : Int) < l.length := by omega
    clear hx HS hA
    go_upto_region 4 with fail
    refine wl_region ?_
    try dsimp only [List.append]
    refine wl_do (some 11) (.func (.func 152) #[] #[]) rfl (by kernel_rfl) (by kernel_rfl) ?_
    refine wl_do (some 12) (.slice (some ⟨b, o, none⟩) l.length c) rfl (by kernel_rfl) (by kernel_rfl) ?_
    refine wl_do (some 13) (.int .i64 j) rfl (by kernel_rfl) (by kernel_rfl) ?_
    refine wl_do (some 14) (.pointer (some ⟨b, o + j, none⟩)) rfl (by kernel_rfl) (by go_simp) ?_
    refine wl_do (some 15) (.int .i64 x) rfl (by kernel_rfl) (rl_int rfl (by kernel_rfl) HCA.out) ?_
    refine wl_call (some 16) rfl (by kernel_rfl) 152 #[.int .i64 x] (by kernel_rfl) (HI.out x _) ?_
    rintro r W3 ⟨rfl, hb⟩
    replace HB := Lib.hid (HB.out.tr hb)
    clear hb
    refine ⟨_, rfl, ?_⟩
    generalize p x = sm at *
    refine wl_nil ?_
    try simp only [Act.put, List.setIfInBounds_toArray, List.set_cons_zero, List.set_cons_succ]
    cases sm with
    | false =>
      have HD2 : Hid ((l.drop (j + 1)).any p = T) := Lib.hid (by rw [← HD.out, Bool.false_or])
      go_wp2
      go_roundw
      case rel => exact ⟨j + 1, by go_num, by omega, HD2, HB⟩
      case measure => simp [intOf]; omega
    | true =>
      have HD2 : Hid (true = T) := Lib.hid (by rw [← HD.out, Bool.true_or])
      go_wp2
      go_ret
      exact ⟨j, rfl, by rw [← HD2.out]; exact decide_eq_true i0, HB.out⟩
theorem contains_h2 (p : Int → Bool) (l : List Int) (v : Value) (w : World) (h : Sl intR w v l) (IH : Says 152 p) :
    Calls Try.prog 59 #[v, .func (.func 152) #[] #[]] w fun r w' => r = .returned (.bool (l.any p)) ∧ Bel w w' := by
  have HC := Lib.hid (index_h2 p l v w h IH)
  obtain ⟨A, c, rfl, -⟩ := h
  generalize l.any p = T at *
  clear IH
  go_enter Try.func59, Try.ntmps59
  go_wp2_with fail
  refine HC.out.mono ?_
  rintro r w1 ⟨k, rfl, hk, hb⟩
  have hk2 : decide (0 ≤ k) = T := hk
  have HB := Lib.hid hb
  clear hb HC hk
  cases T with
  | true =>
    go_wp2
    go_ret
    exact ⟨rfl, HB.out⟩
  | false =>
    go_wp2
    go_ret
    exact ⟨rfl, HB.out⟩
theorem head1_says : Says 151 fun n => !decide (0 ≤ n ∧ n ≤ 8) := by
  intro n W
  dsimp only
  by_cases h0 : n < 0
  · have d0 : decide (n < 0) = true := decide_eq_true h0
    have HR : Hid (decide (0 ≤ n ∧ n ≤ 8) = false) := Lib.hid (decide_eq_false (by omega))
    generalize decide (0 ≤ n ∧ n ≤ 8) = T at *
    go_enter Try.func151, Try.ntmps151
    go_wp2
    go_ret
    exact ⟨by rw [HR.out]; rfl, Bel.rfl_ _⟩
  have d0 : decide (n < 0) = false := decide_eq_false h0
  by_cases h8 : n > 8
  · have d8 : decide (n > 8) = true := decide_eq_true h8
    have HR : Hid (decide (0 ≤ n ∧ n ≤ 8) = false) := Lib.hid (decide_eq_false (by omega))
    generalize decide (0 ≤ n ∧ n ≤ 8) = T at *
    go_enter Try.func151, Try.ntmps151
    go_wp2
    go_ret
    exact ⟨by rw [HR.out]; rfl, Bel.rfl_ _⟩
  · have d8 : decide (n > 8) = false := decide_eq_false h8
    have HR : Hid (decide (0 ≤ n ∧ n ≤ 8) = true) := Lib.hid (decide_eq_true (by omega))
    generalize decide (0 ≤ n ∧ n ≤ 8) = T at *
    go_enter Try.func151, Try.ntmps151
    go_wp2
    go_ret
    exact ⟨by rw [HR.out]; rfl, Bel.rfl_ _⟩
theorem head2_says : Says 152 fun n => !decide (n = 0) := by
  intro n W
  dsimp only
  by_cases h0 : n = 0
  · subst h0
    go_enter Try.func152, Try.ntmps152
    go_wp2
    go_ret
    exact ⟨rfl, Bel.rfl_ _⟩
  · have d0 : (n != 0) = true := by simpa using h0
    have HR : Hid (decide (n = 0) = false) := Lib.hid (decide_eq_false h0)
    generalize decide (n = 0) = T at *
    go_enter Try.func152, Try.ntmps152
    go_wp2
    go_ret
    exact ⟨by rw [HR.out]; rfl, Bel.rfl_ _⟩
/-- what is wrong with a function's head -/
def headP (main : Bool) (f : PF) : Int :=
  if f.params < 0 ∨ (f.sizes.length : Int) < f.params then 3
  else if 3 < f.params ∨ 6 < (f.sizes.length : Int) - f.params then 2
  else if f.sizes.all (fun n => decide (0 ≤ n ∧ n ≤ 8)) = false then 3
  else if (f.sizes.take f.params.toNat).all (fun n => decide (n = 0)) = false ∨ (main = true ∧ 0 < f.params) then 1 else 0
theorem any_not {α : Type} (p : α → Bool) (l : List α) : l.any (fun x => !p x) = !l.all p := by
  induction l with
  | nil => rfl
  | cons x xs ih => rw [List.any_cons, List.all_cons, ih, Bool.not_and]
/-- a checker, told by its cells: the program's functions, the function, how many may be called -/
def ChkM (w0 w : World) (ps : List PF) (f : PF) (calls : Int) (g : Nat) : Prop := ∃ vp cs, Blk w g 155 ([vp] ++ cs ++ [Value.int .i64 calls]).toArray ∧ Sl pfR w0 vp ps ∧ PFR w0 f cs
theorem ChkM.keep {w0 w w' : World} {ps : List PF} {f : PF} {calls : Int} {g : Nat} (h : ChkM w0 w ps f calls g) (hb : Bel w w') : ChkM w0 w' ps f calls g := by
  obtain ⟨vp, cs, h1, h2, h3⟩ := h
  exact ⟨vp, cs, h1.keep hb, h2, h3⟩
theorem ChkM.cells {w0 w : World} {ps : List PF} {f : PF} {calls : Int} {g : Nat} (h : ChkM w0 w ps f calls g) : ∃ vp vz vc vr, Blk w g 155 #[vp, .int .i64 f.params, vz, vc, .int .i64 f.result.kind, .int .i64 f.result.n, vr, .int .i64 calls] ∧ Sl pfR w0 vp ps ∧ Sl intR w0 vz f.sizes ∧ Sl pcR w0 vc f.cmds ∧ Sl peR w0 vr f.result.args := by
  obtain ⟨vp, cs, h1, h2, vz, vc, vr, rfl, h3, h4, h5⟩ := h
  exact ⟨vp, vz, vc, vr, h1, h2, h3, h4, h5⟩
set_option maxRecDepth 20000 in
set_option maxHeartbeats 8000000 in
theorem head_any (w0 w : World) (ps : List PF) (f : PF) (calls : Int) (g : Nat) (main : Bool) (h : ChkM w0 w ps f calls g) (hb0 : Bel w0 w) :
    Calls Try.prog 139 #[.pointer (some ⟨g, 0, none⟩), .bool main] w fun r w' => r = .returned (.int .i64 (headP main f)) ∧ Bel w w' := by
  obtain ⟨vp, vz, vc, vr, hbk, -, hz, hc, hr⟩ := h.cells
  have HZ := Lib.hid hz
  obtain ⟨Az, cz, rfl, hzc, hzm, -⟩ := id hz
  have hlz : f.sizes.length ≤ 9223372036854775807 := by have := hzm.1; simp only [maxLen] at this; omega
  obtain ⟨Ac, cc, rfl, hlc⟩ := sl_lit hc
  obtain ⟨Ar, cr, rfl, hlr⟩ := sl_lit hr
  have HC1 := Lib.hid (fun W (hb : Bel w0 W) => contains_h1 _ f.sizes _ W (hz.keep hb) head1_says)
  have HC2 := Lib.hid (fun W v (h : Sl intR W v (f.sizes.take f.params.toNat)) => contains_h2 _ (f.sizes.take f.params.toNat) v W h head2_says)
  rw [any_not] at HC1
  simp only [any_not] at HC2
  have HP : Hid (headP main f = if f.params < 0 ∨ (f.sizes.length : Int) < f.params then 3 else if 3 < f.params ∨ 6 < (f.sizes.length : Int) - f.params then 2 else if f.sizes.all (fun n => decide (0 ≤ n ∧ n ≤ 8)) = false then 3 else if (f.sizes.take f.params.toNat).all (fun n => decide (n = 0)) = false ∨ (main = true ∧ 0 < f.params) then 1 else 0) := Lib.hid rfl
  have HL : Hid (∀ k : Nat, f.params = k → k ≤ f.sizes.length → ∀ W, Bel w0 W → Sl intR W (.slice Az k cz) (f.sizes.take k)) := Lib.hid fun k hk hkl W hb => by
    obtain ⟨A', c', hv, h1, h2, h3⟩ := hz.keep hb
    injection hv with e1 _ e2
    subst e1
    subst e2
    have := Sl.cut (r := intR) (i := 0) (j := k) (A' := Az) h1 h2 h3 hkl (by by_cases h0 : cz = 0; exact (if_pos h0).symm; rw [if_neg h0]; cases Az with | none => rfl | some a => simp [Addr.add]) rfl
    simpa using this
  have HB := Lib.hid hb0
  have HBK := Lib.hid hbk
  clear h hbk hz hc hr hb0
  generalize headP main f = T at *
  generalize hz1 : f.sizes.all (fun n => decide (0 ≤ n ∧ n ≤ 8)) = Z1 at *
  generalize hz2 : (f.sizes.take f.params.toNat).all (fun n => decide (n = 0)) = Z2 at *
  clear hz1 hz2
  generalize f.sizes.length = L at *
  generalize f.params = P at *
  generalize f.result.kind = rk at *
  generalize f.result.n = rn at *
  have c1 := HBK.out.cell (i := 1) rfl
  have c2 := HBK.out.cell (i := 2) rfl
  have c3 := HBK.out.cell (i := 3) rfl
  have c4 := HBK.out.cell (i := 4) rfl
  have c5 := HBK.out.cell (i := 5) rfl
  have c6 := HBK.out.cell (i := 6) rfl
  go_enter Try.func139, Try.ntmps139
  go_upto_region 2 with fail
  have HX : Hid (Bel w (w.alloc (.cells #[.int .i64 P, .slice Az L cz, .slice Ac f.cmds.length cc, .int .i64 rk, .int .i64 rn, .slice Ar f.result.args.length cr] 78))) := Lib.hid ((Bel.rfl_ w).al _)
  have HK := Lib.hid (Blk.new w 78 #[.int .i64 P, .slice Az L cz, .slice Ac f.cmds.length cc, .int .i64 rk, .int .i64 rn, .slice Ar f.result.args.length cr])
  clear c1 c2 c3 c4 c5 c6
  generalize w.alloc _ = W1 at *
  generalize w.heap.size = K at *
  have k0 := HK.out.cell (i := 0) (v := .int .i64 P) rfl
  have k1 := HK.out.cell (i := 1) (v := .slice Az L cz) rfl
  by_cases h1 : P < 0
  · have HR : Hid (T = 3) := Lib.hid (by rw [HP.out, if_pos (Or.inl h1)])
    have d1 : decide (P < 0) = true := decide_eq_true h1
    clear HP HC1 HC2 HL h1
    go_wp2
    go_ret
    exact ⟨by rw [HR.out]; rfl, HX.out⟩
  have d1 : decide (P < 0) = false := decide_eq_false h1
  by_cases h2 : P > (L : Int)
  · have HR : Hid (T = 3) := Lib.hid (by rw [HP.out, if_pos (Or.inr h2)])
    have d2 : decide (P > (L : Int)) = true := decide_eq_true h2
    clear HP HC1 HC2 HL h1 h2
    go_wp2
    go_ret
    exact ⟨by rw [HR.out]; rfl, HX.out⟩
  have d2 : decide (P > (L : Int)) = false := decide_eq_false h2
  have hw : IntKind.i64.wrap ((L : Int) - P) = (L : Int) - P := by rw [IntKind.wrap_i64]; omega
  by_cases h3 : P > 3
  · have HR : Hid (T = 2) := Lib.hid (by rw [HP.out, if_neg (by omega), if_pos (Or.inl h3)])
    have d3 : decide (P > 3) = true := decide_eq_true h3
    clear HP HC1 HC2 HL h1 h2 h3
    go_wp2
    go_ret
    exact ⟨by rw [HR.out]; rfl, HX.out⟩
  have d3 : decide (P > 3) = false := decide_eq_false h3
  by_cases h4 : (L : Int) - P > 6
  · have HR : Hid (T = 2) := Lib.hid (by rw [HP.out, if_neg (by omega), if_pos (Or.inr h4)])
    have d4 : decide ((L : Int) - P > 6) = true := decide_eq_true h4
    clear HP HC1 HC2 HL h1 h2 h3 h4
    go_wp2
    go_ret
    exact ⟨by rw [HR.out]; rfl, HX.out⟩
  have d4 : decide ((L : Int) - P > 6) = false := decide_eq_false h4
  replace HP : Hid (T = if Z1 = false then 3 else if Z2 = false ∨ (main = true ∧ 0 < P) then 1 else 0) := Lib.hid (by rw [HP.out, if_neg (by omega), if_neg (by omega)])
  obtain ⟨k, hk⟩ : ∃ k : Nat, P = k := ⟨P.toNat, by omega⟩
  subst hk
  have hkL : k ≤ L := by omega
  have HSL := Lib.hid (HL.out k rfl hkL)
  rw [Int.toNat_natCast] at HC2
  clear h1 h2 h3 h4 HL
  go_wp2_with fail
  refine (HC1.out _ (HB.out.tr HX.out)).mono ?_
  rintro r w2 ⟨rfl, hb⟩
  replace HK := Lib.hid (HK.out.keep hb)
  replace HX := Lib.hid (HX.out.tr hb)
  have k0 := HK.out.cell (i := 0) (v := .int .i64 k) rfl
  have k1 := HK.out.cell (i := 1) (v := .slice Az L cz) rfl
  have hkc : k ≤ cz := by omega
  have hkc2 : (k : Int) ≤ cz := by omega
  clear hb HC1
  cases Z1 with
  | false =>
    have HR : Hid (T = 3) := Lib.hid (by rw [HP.out, if_pos rfl])
    clear HP
    simp only [Bool.not_false]
    go_wp2
    go_ret
    exact ⟨by rw [HR.out]; rfl, HX.out⟩
  | true =>
    replace HP : Hid (T = if Z2 = false ∨ (main = true ∧ 0 < (k : Int)) then 1 else 0) := Lib.hid (by rw [HP.out, if_neg (by decide)])
    simp only [Bool.not_true]
    go_wp2_with fail
    refine (HC2.out _ _ (HSL.out _ (HB.out.tr HX.out))).mono ?_
    rintro r w3 ⟨rfl, hb⟩
    replace HK := Lib.hid (HK.out.keep hb)
    replace HX := Lib.hid (HX.out.tr hb)
    have k0 := HK.out.cell (i := 0) (v := .int .i64 k) rfl
    clear hb HC2 HSL
    cases Z2 with
    | false =>
      have HR : Hid (T = 1) := Lib.hid (by rw [HP.out, if_pos (Or.inl rfl)])
      clear HP
      simp only [Bool.not_false]
      go_wp2
      go_ret
      exact ⟨by rw [HR.out]; rfl, HX.out⟩
    | true =>
      simp only [Bool.not_true]
      cases main with
      | false =>
        have HR : Hid (T = 0) := Lib.hid (by rw [HP.out, if_neg (by simp)])
        clear HP
        go_wp2
        go_ret
        exact ⟨by rw [HR.out]; rfl, HX.out⟩
      | true =>
        by_cases hk0 : (k : Int) > 0
        · have HR : Hid (T = 1) := Lib.hid (by rw [HP.out, if_pos (Or.inr ⟨rfl, hk0⟩)])
          have dk : decide ((k : Int) > 0) = true := decide_eq_true hk0
          clear HP
          go_wp2
          go_ret
          exact ⟨by rw [HR.out]; rfl, HX.out⟩
        · have HR : Hid (T = 0) := Lib.hid (by rw [HP.out, if_neg (by simp; omega)])
          have dk : decide ((k : Int) > 0) = false := decide_eq_false hk0
          clear HP
          go_wp2
          go_ret
          exact ⟨by rw [HR.out]; rfl, HX.out⟩
end Go.Proofs.Ytgkpplbomciehaa
