/- Beginnings of traces, and what is behind an end; more fuel. What must be in any case of traces: walked. What the document asks of a trace is what is right: plain. Each lemma states its own conditions. -/
import Derived.Test.YtgkpplbomciehaaTrr47
import Derived.Test.YtgkpplbomciehaaTrr45
import Derived.Test.YtgkpplbomciehaaTrr46
namespace Go.Proofs.Ytgkpplbomciehaa
open Go.RowKit
theorem cameL_take : ∀ (l : List Ev) (acc : List Int), (∀ x ∈ valsL l, Num x) → acc.length ≤ 50 → (∀ i x, (valsL l)[i]? = some x → 50 ≤ acc.length + i → x = 0) → cameL l acc = some ((acc ++ valsL l).take 50)
  | [], acc, _, h50, _ => by rw [cameL]; simp [valsL, List.take_of_length_le h50]
  | e :: l, acc, hn, h50, hz => by
    rw [cameL]
    by_cases h3 : e.kind = 3
    · have hv : valsL (e :: l) = e.value :: valsL l := by simp [valsL, h3]
      rw [hv] at hn hz ⊢
      rw [if_neg (fun h => h h3)]
      have hne : Num e.value := hn _ (by simp)
      by_cases h5 : acc.length = 50
      · have h0 : e.value = 0 := hz 0 _ rfl (by omega)
        rw [if_neg (by rintro (h | h); exact h hne; exact h.2 h0), if_neg (by omega), cameL_take l acc (fun x hx => hn x (by simp [hx])) h50 (fun i x hx hi => hz (i + 1) x (by simpa using hx) (by omega)),
          List.take_append_of_le_length (by omega), List.take_append_of_le_length (by omega)]
      · rw [if_neg (by rintro (h | h); exact h hne; exact h5 h.1), if_pos (by omega), cameL_take l (acc ++ [e.value]) (fun x hx => hn x (by simp [hx])) (by simp; omega) (fun i x hx hi => hz (i + 1) x (by simpa using hx) (by simp at hi; omega)), List.append_assoc]
        rfl
    · have hv : valsL (e :: l) = valsL l := by simp [valsL, h3]
      rw [hv] at hn hz ⊢
      rw [if_pos h3]
      exact cameL_take l acc hn h50 hz
theorem valsL_pre {l : List Ev} {N i : Nat} {x : Int} (h : (valsL (l.take N))[i]? = some x) : (valsL l)[i]? = some x := by
  have h1 : l = l.take N ++ l.drop N := (List.take_append_drop N l).symm
  rw [h1, valsL_app, List.getElem?_append_left (List.getElem?_eq_some_iff.1 h).1]
  exact h
theorem getD_num {inp : List Int} (h : ∀ n ∈ inp, Num n) (i : Nat) : Num (inp.getD i 0) := by
  rw [List.getD_eq_getElem?_getD]
  cases hi : inp[i]? with
  | none => unfold Num; decide
  | some x => exact h x (List.mem_of_getElem? hi)
section
variable {ps : List PF} {inp : List Int} {fuel : Int} {out : List Ev}
/-- EACH BEGINNING OF A TRACE IS RIGHT -/
theorem Ran.right (hp : Prog ps) (hi : ∀ n ∈ inp, Num n) (h50 : inp.length ≤ 50) (hf : 0 ≤ fuel) (hf5 : fuel ≤ 500) (h : Ran ps inp fuel out) {N : Nat} (hN : N ≤ out.length) : RightP ps (out.take N) := by
  have hfed : ∀ i x, (valsL (out.take N))[i]? = some x → x = inp.getD i 0 := fun i x hx => h.fed hf i x (valsL_pre hx)
  have hz : ∀ i x, (valsL (out.take N))[i]? = some x → 50 ≤ ([] : List Int).length + i → x = 0 := fun i x hx hi => by
    rw [hfed i x hx, List.getD_eq_getElem?_getD, List.getElem?_eq_none (by simp at hi; omega)]
    rfl
  have hc := cameL_take (out.take N) [] (fun x hx => by
    obtain ⟨i, hi'⟩ := List.getElem?_of_mem hx
    rw [hfed i x hi']
    exact getD_num hi i) (by simp) hz
  rw [List.nil_append] at hc
  have hin : ∀ i, i < (valsL (out.take N)).length → inp.getD i 0 = ((valsL (out.take N)).take 50).getD i 0 := fun i hi => by
    have hx := List.getElem?_eq_getElem hi
    have h1 := hfed i _ hx
    rw [List.getD_eq_getElem?_getD (l := List.take 50 _), List.getElem?_take]
    split
    · rw [hx, Option.getD_some]; exact h1.symm
    · rw [Option.getD_none, ← h1]
      exact hz i _ hx (by simp; omega)
  have hs : (stepsE (out.take N) : Int) ≤ fuel := by
    have h1 := h.steps hf
    have h2 : stepsL out = stepsL (out.take N) + stepsL (out.drop N) := by rw [← stepsL_app, List.take_append_drop]
    have h3 : stepsE (out.take N) = stepsL (out.take N) := rfl
    omega
  have hnum := cameL_num hc (fun n hn => by simp at hn)
  have key : ∀ G : Int, 0 ≤ G → (fuel = G ∨ (fuel ≤ G ∧ (N < out.length ∨ ∀ l e, out = l ++ [e] → e.value ≠ 1))) → Begins ps ((valsL (out.take N)).take 50) (out.take N) G := fun G hG hc2 => by
    obtain ⟨o2, h2, -⟩ := Ran.ex hp hnum hG
    obtain ⟨h3, h4⟩ := Ran.sim hf hG h h2 hN hc2 hin
    have hl : (out.take N).length = N := by rw [List.length_take]; omega
    exact ⟨o2, h2, by rw [hl]; exact h3, by rw [hl]; exact h4.symm⟩
  refine ⟨_, hc, by omega, ?_⟩
  by_cases hlt : N < out.length
  · exact Or.inl (key 500 (by omega) (Or.inr ⟨hf5, Or.inl hlt⟩))
  obtain ⟨l, e, h1, -, -, h4⟩ := h.last hf
  by_cases hv : e.value = 1
  · refine Or.inr (key _ (by omega) (Or.inl ?_))
    rw [List.take_of_length_le (by omega), ← h4 hv]
    rfl
  · refine Or.inl (key 500 (by omega) (Or.inr ⟨hf5, Or.inr fun l' e' h' => ?_⟩))
    rw [h1] at h'
    have := List.append_inj' h' rfl
    have h2 := this.2
    injection h2 with h2
    rw [← h2]
    exact hv
end
theorem small_ok : errP smallPs = 0 := by decide +kernel
theorem small_ran : Ran smallPs [7] 9 smallT := ⟨Mc.iter smallPs 9 3 (startM smallPs [7]), ⟨3, rfl⟩, by decide +kernel, by decide +kernel⟩
theorem small_ran5 : Ran smallPs [7] 500 smallT := ⟨Mc.iter smallPs 500 3 (startM smallPs [7]), ⟨3, rfl⟩, by decide +kernel, by decide +kernel⟩
theorem small_ran1 : Ran smallPs [7] 1 [⟨1, 0, 0, 0, 0, 0⟩, ⟨3, 0, 0, 0, 0, 7⟩, ⟨2, 0, 0, 0, 0, 7⟩, ⟨7, 0, 1, 0, 0, 1⟩] := ⟨Mc.iter smallPs 1 2 (startM smallPs [7]), ⟨2, rfl⟩, by decide +kernel, by decide +kernel⟩
theorem small_right : RightP smallPs (smallT.take 3) := small_ran.right (errP_ok small_ok) (by decide) (by decide) (by decide) (by decide) (by decide)
theorem small_wrong : ¬ RightP smallPs (smallT.drop 1) := by
  rintro ⟨inp, hc, -, hb⟩
  have hi : inp = [7] := by
    have h : cameL (smallT.drop 1) [] = some [7] := by decide +kernel
    rw [h] at hc
    exact (Option.some.inj hc).symm
  subst hi
  rcases hb with ⟨out, h1, h2, h3⟩ | ⟨out, h1, h2, h3⟩
  · rw [Ran.same h1 small_ran5] at h3
    exact absurd h3 (by decide)
  · rw [Ran.same h1 (show Ran smallPs [7] (stepsE (smallT.drop 1)) _ from small_ran1)] at h2
    exact absurd h2 (by decide)
/-- events cut out of a row of the call's own -/
theorem cut_evs {w : World} {base : Nat} {g c : Nat} {l : List Ev} (h : w.ownsRow base EVT 6 (.slice (some ⟨g, 0, none⟩) l.length c) l.length (evC l)) {i j : Nat} (_hij : i ≤ j) (hj : j ≤ l.length) (hi : i < c) :
    Sl evR w (.slice (some ⟨g, i * 6, none⟩) (j - i) (c - i)) ((l.drop i).take (j - i)) := by
  have h1 := Sl.own_ev h rfl
  obtain ⟨A, c', he, h2, h3, h4⟩ := h1
  injection he with e1 _ e3
  subst e1 e3
  refine Sl.cut (r := evR) (A := some ⟨g, 0, none⟩) h2 h3 h4 hj ?_ rfl
  rw [if_neg (by omega)]
  simp only [Option.map_some, evR]
  unfold Addr.add
  split
  · rename_i h0; rw [h0]
  · simp
set_option maxRecDepth 20000 in
set_option maxHeartbeats 4000000 in
theorem traceBegun_any (w : World) : Calls Try.prog 27 #[] w fun r w' => r = .returned (.bool true) ∧ Bel w w' := by
  have hrun : runE smallPs [7] 9 = 0 := by decide +kernel
  have hrt : rightE smallPs (smallT.take 3) = 0 := by decide +kernel
  have hrt2 : rightE smallPs (smallT.drop 1) = 0 := by decide +kernel
  have hev : evalE (.mk 1 4 []) [] = 0 := by decide +kernel
  have hvl : (PE.mk 1 4 []).val [] = (4, 0) := by decide +kernel
  have HRUN := Lib.hid hrun
  have HRT := Lib.hid hrt
  have HRT2 := Lib.hid hrt2
  have HEV := Lib.hid hev
  have HVL := Lib.hid hvl
  clear hrun hrt hrt2 hev hvl
  go_enter Try.func27, Try.ntmps27
  go_wp2_with fail
  refine (small_any _).mono ?_
  rintro r w1 ⟨v1, rfl, h1, b1⟩
  have HP1 := Lib.hid (h1.keep ((Bel.rfl_ w1).al (.cells #[.int .i64 7] INT)))
  have HB1 := Lib.hid (b1.al (.cells #[.int .i64 7] INT))
  have HI1 := Lib.hid (Sl.ints (l := [7]) (Blk.new w1 INT #[.int .i64 7]) (by decide))
  obtain ⟨A1, c1, rfl, -⟩ := sl_lit h1
  clear h1 b1
  go_wp2_with fail
  refine (run_any smallPs [7] 9 _ _ _ HP1.out HI1.out).mono ?_
  rintro r w2 ⟨b2, ⟨hn, -⟩ | ⟨-, u, out, rfl, hran, hown⟩⟩
  · exact absurd HRUN.out hn
  obtain rfl := Ran.same hran small_ran
  have HB2 := Lib.hid (HB1.out.tr b2)
  have HU2 := Lib.hid (Sl.own_ev hown rfl)
  obtain ⟨g2, cp2, rfl, -⟩ := own_lies hown (by decide)
  clear hran hown b2 HB1 HP1 HI1
  go_wp2_with fail
  refine (eval_any (.mk 1 4 []) [] _ (.slice none 0 0) w2 ⟨.slice none 0 0, rfl, Sl.nil_ _ _⟩ (Sl.nil_ _ _) (by simp)).mono ?_
  rintro r w3 ⟨b3, ⟨hn, -⟩ | ⟨-, rfl⟩⟩
  · exact absurd HEV.out hn
  rw [HVL.out]
  have HB3 := Lib.hid (HB2.out.tr b3)
  have HU3 := Lib.hid (HU2.out.keep b3)
  clear b3 HB2 HU2
  go_wp2_with fail
  refine (small_any _).mono ?_
  rintro r w4 ⟨v4, rfl, h4, b4⟩
  have HP4 := Lib.hid h4
  have HB4 := Lib.hid (HB3.out.tr b4)
  have HU4 := Lib.hid (HU3.out.keep b4)
  obtain ⟨A4, c4, rfl, -⟩ := sl_lit h4
  clear h4 b4 HB3 HU3
  go_wp2_with fail
  refine (smallTrace_any _).mono ?_
  rintro r w5 ⟨u5, rfl, h5, b5⟩
  obtain ⟨g5, cp5, rfl, -, hc5, hm5, -⟩ := own_lies h5 (by decide)
  have hc5' : 6 ≤ cp5 := hc5
  have HT5 := Lib.hid (cut_evs h5 (i := 0) (j := 3) (by decide) (by decide) (by omega))
  have HP5 := Lib.hid (HP4.out.keep b5)
  have HB5 := Lib.hid (HB4.out.tr b5)
  have HU5 := Lib.hid (HU4.out.keep b5)
  have hm5' : cp5 ≤ maxLen := hm5
  clear h5 b5 HB4 HU4 HP4 hc5
  have hlen : smallT.length = 6 := rfl
  rw [hlen]
  go_wp2_with fail
  refine (right_any smallPs (smallT.take 3) _ _ _ HP5.out HT5.out).mono ?_
  rintro r w6 ⟨b6, ⟨hn, -⟩ | ⟨-, ok, rfl, hok⟩⟩
  · exact absurd HRT.out hn
  obtain rfl : ok = true := hok.2 small_right
  have HB6 := Lib.hid (HB5.out.tr b6)
  have HU6 := Lib.hid (HU5.out.keep b6)
  clear b6 hok HB5 HU5 HT5 HP5
  go_wp2_with fail
  refine (small_any _).mono ?_
  rintro r w7 ⟨v7, rfl, h7, b7⟩
  have HP7 := Lib.hid h7
  have HB7 := Lib.hid (HB6.out.tr b7)
  have HU7 := Lib.hid (HU6.out.keep b7)
  obtain ⟨A7, c7, rfl, -⟩ := sl_lit h7
  clear h7 b7 HB6 HU6
  go_wp2_with fail
  refine (smallTrace_any _).mono ?_
  rintro r w8 ⟨u8, rfl, h8, b8⟩
  obtain ⟨g8, cp8, rfl, -, hc8, hm8, -⟩ := own_lies h8 (by decide)
  have hc8' : 6 ≤ cp8 := hc8
  have HT8 := Lib.hid (cut_evs h8 (i := 1) (j := 6) (by decide) (by decide) (by omega))
  have HP8 := Lib.hid (HP7.out.keep b8)
  have HB8 := Lib.hid (HB7.out.tr b8)
  have HU8 := Lib.hid (HU7.out.keep b8)
  have hm8' : cp8 ≤ maxLen := hm8
  clear h8 b8 HB7 HU7 HP7 hc8 hc5' hm5' hm5
  rw [hlen]
  go_wp2_with fail
  refine (right_any smallPs (smallT.drop 1) _ _ _ HP8.out HT8.out).mono ?_
  rintro r w9 ⟨b9, ⟨hn, -⟩ | ⟨-, ok, rfl, hok⟩⟩
  · exact absurd HRT2.out hn
  obtain rfl : ok = false := by
    cases ok with
    | false => rfl
    | true => exact absurd (hok.1 rfl) small_wrong
  have HB9 := Lib.hid (HB8.out.tr b9)
  have HU9 := Lib.hid (HU8.out.keep b9)
  clear b9 hok HB8 HU8 HT8 HP8
  go_wp2_with fail
  refine (smallTrace_any _).mono ?_
  rintro r w10 ⟨u10, rfl, h10, b10⟩
  have HE10 := Lib.hid (Sl.own_ev h10 rfl)
  have HB10 := Lib.hid (HB9.out.tr b10)
  have HU10 := Lib.hid (HU9.out.keep b10)
  obtain ⟨g10, cp10, rfl, -⟩ := own_lies h10 (by decide)
  clear h10 b10 HB9 HU9
  go_wp2_with fail
  refine (sameEvents_any _ _ smallT smallT _ HU10.out HE10.out (by unfold ok64; decide) (by unfold ok64; decide)).mono ?_
  rintro r w11 ⟨rfl, b11⟩
  have HB11 := Lib.hid (HB10.out.tr b11)
  clear b11 HB10
  rw [decide_eq_true (show smallT = smallT from rfl)]
  go_wp2
  go_ret
  exact ⟨rfl, HB11.out⟩
end Go.Proofs.Ytgkpplbomciehaa
namespace Go.Proofs.Ytgkpplbomciehaa
/-- numbers that can have come in -/
def FitIn (xs : List Int) : Prop := ∀ i x, xs[i]? = some x → Num x ∧ (50 ≤ i → x = 0)
theorem valsL_cons (e : Ev) (l : List Ev) : valsL (e :: l) = if e.kind = 3 then e.value :: valsL l else valsL l := by
  unfold valsL
  by_cases h : e.kind = 3 <;> simp [h]
theorem valsL_snoc {l : List Ev} {j : Nat} {e : Ev} (h : l[j]? = some e) : valsL (l.take (j + 1)) = if e.kind = 3 then valsL (l.take j) ++ [e.value] else valsL (l.take j) := by
  rw [take_snoc h, valsL_app, valsL_cons]
  split <;> simp [valsL]
theorem valsL_len (l : List Ev) : (valsL l).length ≤ l.length := by
  unfold valsL
  rw [List.length_map]
  exact List.length_filter_le ..
theorem cameL_fit : ∀ (l : List Ev) (acc inp : List Int), cameL l acc = some inp → acc.length ≤ 50 → ∀ i x, (valsL l)[i]? = some x → Num x ∧ (50 ≤ acc.length + i → x = 0)
  | [], acc, inp, _, _, i, x, h => by simp [valsL] at h
  | e :: l, acc, inp, h, ha, i, x, hx => by
    rw [cameL] at h
    rw [valsL_cons] at hx
    by_cases h3 : e.kind = 3
    · rw [if_neg (by simp [h3])] at h
      rw [if_pos h3] at hx
      split at h
      · cases h
      rename_i hn
      cases i with
      | zero =>
        simp only [List.getElem?_cons_zero, Option.some.injEq] at hx
        subst hx
        refine ⟨?_, fun h50 => ?_⟩
        · by_cases hh : Num e.value
          · exact hh
          · exact absurd (Or.inl hh) hn
        · by_cases hh : e.value = 0
          · exact hh
          · exact absurd (Or.inr ⟨by omega, hh⟩) hn
      | succ i =>
        rw [List.getElem?_cons_succ] at hx
        have h2 := cameL_fit l _ inp h (by split <;> (try rw [List.length_append, List.length_singleton]) <;> omega) i x hx
        refine ⟨h2.1, fun h50 => h2.2 ?_⟩
        split <;> (try rw [List.length_append, List.length_singleton]) <;> omega
    · rw [if_pos h3] at h
      rw [if_neg h3] at hx
      exact cameL_fit l acc inp h ha i x hx
theorem cameL_iff (l : List Ev) (inp : List Int) : cameL l [] = some inp ↔ FitIn (valsL l) ∧ inp = (valsL l).take 50 := by
  have hto : FitIn (valsL l) → cameL l [] = some ((valsL l).take 50) := fun hf => by
    have h := cameL_take l [] (fun x hx => by
      obtain ⟨i, hi⟩ := List.mem_iff_getElem?.1 hx
      exact (hf i x hi).1) (by simp) (fun i x hx h5 => (hf i x hx).2 (by simpa using h5))
    rw [List.nil_append] at h
    exact h
  constructor
  · intro h
    have hf : FitIn (valsL l) := fun i x hx => by
      have := cameL_fit l [] inp h (by simp) i x hx
      exact ⟨this.1, fun h5 => this.2 (by simpa using h5)⟩
    refine ⟨hf, ?_⟩
    rw [hto hf] at h
    injection h with h
    exact h.symm
  · rintro ⟨hf, rfl⟩
    exact hto hf
def RightR (ps : List PF) (l : List Ev) : Prop := FitIn (valsL l) ∧ (Begins ps ((valsL l).take 50) l 500 ∨ (stepsE l ≤ 500 ∧ Begins ps ((valsL l).take 50) l (stepsE l)))
theorem right_same (ps : List PF) (l : List Ev) : RightR ps l ↔ RightP ps l := by
  constructor
  · rintro ⟨hf, h⟩
    have hc := (cameL_iff l _).2 ⟨hf, rfl⟩
    rcases h with h | ⟨h5, h⟩
    · refine ⟨_, hc, ?_, Or.inl h⟩
      obtain ⟨out, hr, hl, ht⟩ := h
      have h1 := hr.steps (by decide)
      have h2 : stepsL out = stepsL (out.take l.length) + stepsL (out.drop l.length) := by rw [← stepsL_app, List.take_append_drop]
      rw [ht] at h2
      have h3 : stepsE l = stepsL l := rfl
      omega
    · exact ⟨_, hc, h5, Or.inr h⟩
  · rintro ⟨inp, hc, h5, h⟩
    obtain ⟨hf, rfl⟩ := (cameL_iff l inp).1 hc
    exact ⟨hf, h.imp id fun h => ⟨h5, h⟩⟩
theorem FitIn.num {xs : List Int} (h : FitIn xs) : ∀ n ∈ xs.take 50, Num n := fun n hn => by
  obtain ⟨i, hi⟩ := List.mem_iff_getElem?.1 (List.mem_of_mem_take hn)
  exact (h i n hi).1
end Go.Proofs.Ytgkpplbomciehaa
