/- Is a list the beginning of a trace: walked. Beginnings of traces, and what is behind an end; more fuel. Each lemma states its own conditions. -/
import Derived.Test.YtgkpplbomciehaaSca33
import Derived.Test.YtgkpplbomciehaaSca07
namespace Go.Proofs.Ytgkpplbomciehaa
open Go.RowKit
/-- so many steps a list of events has -/
def stepsE (l : List Ev) : Nat := l.countP fun e => e.kind == 1
theorem stepsE_snoc {l : List Ev} {j : Nat} {e : Ev} (h : l[j]? = some e) : stepsE (l.take (j + 1)) = stepsE (l.take j) + if e.kind = 1 then 1 else 0 := by
  unfold stepsE
  rw [take_snoc h, List.countP_append]
  simp [List.countP_cons]
theorem stepsE_le (l : List Ev) (j : Nat) : stepsE (l.take j) ≤ j := by
  unfold stepsE
  refine Nat.le_trans List.countP_le_length ?_
  rw [List.length_take]
  omega
/-- it is the beginning of a trace of so much fuel -/
def Begins (ps : List PF) (inp : List Int) (l : List Ev) (fuel : Int) : Prop := ∃ out, Ran ps inp fuel out ∧ l.length ≤ out.length ∧ out.take l.length = l
def RightP (ps : List PF) (l : List Ev) : Prop := ∃ inp, cameL l [] = some inp ∧ stepsE l ≤ 500 ∧ (Begins ps inp l 500 ∨ Begins ps inp l (stepsE l))
theorem cameL_num : ∀ {l : List Ev} {acc inp : List Int}, cameL l acc = some inp → (∀ n ∈ acc, Num n) → ∀ n ∈ inp, Num n
  | [], acc, inp, h, ha => by
    rw [cameL] at h
    injection h with h
    subst h
    exact ha
  | e :: l, acc, inp, h, ha => by
    rw [cameL] at h
    split at h
    · exact cameL_num h ha
    split at h
    · cases h
    rename_i h1
    have hn : Num e.value := by
      by_cases hh : Num e.value
      · exact hh
      · exact absurd (Or.inl hh) h1
    refine cameL_num h fun n hn2 => ?_
    split at hn2
    · rcases List.mem_append.1 hn2 with h2 | h2
      · exact ha n h2
      · obtain rfl := List.mem_singleton.1 h2
        exact hn
    · exact ha n hn2
theorem noB {P : Prop} (h : ¬ P) : (false = true ↔ P) := ⟨(fun h => by cases h), fun p => absurd p h⟩
theorem yesB {P : Prop} (h : P) : (true = true ↔ P) := ⟨fun _ => h, fun _ => rfl⟩
theorem Begins.not {ps : List PF} {inp : List Int} {l out : List Ev} {fuel : Int} (h : Ran ps inp fuel out) (hn : ¬ (l.length ≤ out.length ∧ out.take l.length = l)) : ¬ Begins ps inp l fuel := by
  rintro ⟨out2, h1, h2⟩
  rw [Ran.same h1 h] at h2
  exact hn h2
set_option maxRecDepth 20000 in
set_option maxHeartbeats 8000000 in
theorem is_any (ps : List PF) (hp : Prog ps) (l : List Ev) (vp vl : Value) (w : World) (h : Sl pfR w vp ps) (hl : Sl evR w vl l) (hlen : l.length ≤ 4000) :
    Calls Try.prog 77 #[.agg #[vp], vl] w fun r w' => ∃ b, r = .returned (.bool b) ∧ (b = true ↔ RightP ps l) ∧ Bel w w' := by
  have HSL := Lib.hid h
  have HEV := Lib.hid hl
  have HPR := Lib.hid hp
  obtain ⟨A, c, rfl, -⟩ := sl_lit h
  obtain ⟨Ae, ce, rfl, -⟩ := sl_lit hl
  have HB1 : Hid (Bel w (w.alloc (.cells #[.slice A ps.length c] PGT))) := Lib.hid ((Bel.rfl_ w).al _)
  have HP1 := Lib.hid (Blk.new w PGT #[.slice A ps.length c])
  clear h hl hp
  go_enter Try.func77, Try.ntmps77
  go_wp2_with fail
  refine (came_any l _ _ (HEV.out.keep HB1.out)).mono ?_
  rintro r w2 ⟨hb2, (⟨hn, rfl⟩ | ⟨inp, u, hi, rfl, hown⟩)⟩
  · have HB2 := Lib.hid (HB1.out.tr hb2)
    have HR : Hid (¬ RightP ps l) := Lib.hid (by rintro ⟨inp, h1, -⟩; rw [hn] at h1; cases h1)
    clear hb2 hn
    go_wp2
    go_ret
    exact ⟨false, rfl, noB HR.out, HB2.out⟩
  have HB2 := Lib.hid (HB1.out.tr hb2)
  have HP2 := Lib.hid (HP1.out.keep hb2)
  have HCM := Lib.hid hi
  have HNI : Hid (∀ n ∈ inp, Num n) := Lib.hid (cameL_num hi (fun n hn => by simp at hn))
  have HU : Hid (Sl intR w2 u inp) := Lib.hid (Sl.own_int hown rfl)
  clear hb2 hi hown HP1 HB1
  generalize w.heap.size = Q at *
  go_wp2
  have HB0 := Lib.hid (Bel.rfl_ w2)
  go_loopw [7, 22] (fun n i wr => ∃ j : Nat, i = .int .i64 j ∧ n = .int .i64 (stepsE (l.take j)) ∧ j ≤ l.length ∧ Hid (Bel w2 wr)) (fun _ i _ => l.length - (intOf i).toNat)
  case atStart => exact ⟨0, rfl, rfl, Nat.zero_le _, HB0⟩
  case round =>
    obtain ⟨j, rfl, rfl, hj, HB⟩ := hrel
    obtain ⟨WO, hWO⟩ : ∃ W, W = wr := ⟨_, rfl⟩
    subst hWO
    clear HB0
    by_cases hlt : j < l.length
    · have hdd : decide ((j : Int) < l.length) = true := decide_eq_true (by omega)
      obtain ⟨e, he⟩ : ∃ e, l[j]? = some e := ⟨_, List.getElem?_eq_getElem hlt⟩
      obtain ⟨b, o, rfl, hea⟩ := HEV.out.event he
      have HEA := Lib.hid (hea.keep (HB2.out.tr HB.out))
      have HSN := Lib.hid (stepsE_snoc he)
      have hsj := stepsE_le l j
      have i0 : (0 : Int) ≤ j := by omega
      have i1 : (j : Int) < l.length := by omega
      clear hea he
      go_upto_region 8 with (refine copyEV (.tmp 24) (.tmp 9) (.tmp 25) rfl rfl rfl rfl rfl rfl b (o + j * 6) (by exact rfl) e HEA.out (by exact rfl) (by exact rfl) ?_)
      have HB3 := Lib.hid (HB.out.al (.cells e.cells.toArray EVT))
      have HK := Lib.hid (Blk.new WO EVT e.cells.toArray)
      generalize hW2 : WO.alloc _ = W2 at *
      clear hW2 HB HEA
      generalize WO.heap.size = K at *
      have c0 := HK.out.cell (i := 0) (v := .int .i64 e.kind) rfl
      by_cases hk : e.kind = 1
      · have d1 : (e.kind == 1) = true := by rw [hk]; rfl
        have HS2 : Hid (stepsE (l.take (j + 1)) = stepsE (l.take j) + 1) := Lib.hid (by rw [HSN.out, if_pos hk])
        clear HSN hk
        go_wp2
        go_roundw
        case rel => exact ⟨j + 1, by go_num, by rw [HS2.out]; go_num, by omega, HB3⟩
        case measure => simp [intOf]; omega
      · have d1 : (e.kind == 1) = false := by rw [beq_eq_false_iff_ne]; exact hk
        have HS2 : Hid (stepsE (l.take (j + 1)) = stepsE (l.take j)) := Lib.hid (by rw [HSN.out, if_neg hk, Nat.add_zero])
        clear HSN hk
        go_wp2
        go_roundw
        case rel => exact ⟨j + 1, by go_num, by rw [HS2.out], by omega, HB3⟩
        case measure => simp [intOf]; omega
    have hdd : decide ((j : Int) < l.length) = false := decide_eq_false (by omega)
    have hjl : j = l.length := by omega
    subst hjl
    rw [List.take_length]
    have HB3 := Lib.hid (HB2.out.tr HB.out)
    have HP3 := Lib.hid (HP2.out.keep HB.out)
    have HU3 := Lib.hid (HU.out.keep HB.out)
    have HST : Hid (stepsE l ≤ 4000) := Lib.hid (by have := stepsE_le l l.length; rw [List.take_length] at this; omega)
    clear HB HP2 HU HB2 hj hlt
    by_cases h5 : stepsE l > 500
    · have d5 : decide ((stepsE l : Int) > 500) = true := decide_eq_true (by omega)
      have HR : Hid (¬ RightP ps l) := Lib.hid (by rintro ⟨inp, -, h1, -⟩; omega)
      clear h5
      go_wp2
      go_ret
      exact ⟨false, rfl, noB HR.out, HB3.out⟩
    have d5 : decide ((stepsE l : Int) > 500) = false := decide_eq_false (by omega)
    have HS5 : Hid (stepsE l ≤ 500) := Lib.hid (by omega)
    have HRT : Hid (RightP ps l ↔ (Begins ps inp l 500 ∨ Begins ps inp l (stepsE l))) := Lib.hid ⟨fun ⟨i2, h1, h2, h3⟩ => by
      rw [HCM.out] at h1
      injection h1 with h1
      subst h1
      exact h3, fun h => ⟨inp, HCM.out, HS5.out, h⟩⟩
    generalize stepsE l = S at *
    clear h5
    go_wp2
    have HB5 : Hid (Bel w (WO.alloc (.cells #[.int .i64 500, .int .i64 S] INT))) := Lib.hid (HB3.out.al _)
    have HP5 := Lib.hid (HP3.out.keep ((Bel.rfl_ WO).al (.cells #[.int .i64 500, .int .i64 S] INT)))
    have HU5 := Lib.hid (HU3.out.keep ((Bel.rfl_ WO).al (.cells #[.int .i64 500, .int .i64 S] INT)))
    have HK5 := Lib.hid (Blk.new WO INT #[.int .i64 500, .int .i64 S])
    clear HB3 HP3 HU3
    generalize WO.alloc (.cells #[.int .i64 500, .int .i64 S] INT) = W5 at *
    generalize WO.heap.size = KB at *
    have HN0 : Hid ((0 < 0 → ¬ Begins ps inp l 500) ∧ (1 < 0 → ¬ Begins ps inp l S)) := Lib.hid ⟨fun h => by omega, fun h => by omega⟩
    have HB0 := Lib.hid (Bel.rfl_ W5)
    go_loopw [37] (fun i wr => ∃ j : Nat, i = .int .i64 j ∧ j ≤ 2 ∧ Hid ((0 < j → ¬ Begins ps inp l 500) ∧ (1 < j → ¬ Begins ps inp l S)) ∧ Hid (Bel W5 wr)) (fun i _ => 2 - (intOf i).toNat)
    case atStart => exact ⟨0, rfl, by omega, HN0, HB0⟩
    case round =>
      obtain ⟨j, rfl, hj, HN, HB⟩ := hrel
      obtain ⟨WV, hWV⟩ : ∃ W, W = wr := ⟨_, rfl⟩
      subst hWV
      clear HB0 HN0
      by_cases hlt : j < 2
      rotate_left
      · have hdd : decide ((j : Int) < 2) = false := decide_eq_false (by omega)
        have HR : Hid (¬ RightP ps l) := Lib.hid (by rw [HRT.out]; rintro (h | h); exact HN.out.1 (by omega) h; exact HN.out.2 (by omega) h)
        have HBV := Lib.hid (HB5.out.tr HB.out)
        clear HN hlt
        go_wp2
        go_ret
        exact ⟨false, rfl, noB HR.out, HBV.out⟩
      have hdd : decide ((j : Int) < 2) = true := decide_eq_true (by omega)
      have hf : ∃ f : Int, WV.cell? ⟨KB, j, none⟩ = some (.int .i64 f) ∧ 0 ≤ f ∧ f ≤ 10000 ∧ (Begins ps inp l f → RightP ps l) ∧ (¬ Begins ps inp l f → (0 < j + 1 → ¬ Begins ps inp l 500) ∧ (1 < j + 1 → ¬ Begins ps inp l S)) := by
        have hs := HS5.out
        rcases (show j = 0 ∨ j = 1 by omega) with rfl | rfl
        · exact ⟨500, (HK5.out.keep HB.out).cell rfl, by omega, by omega, fun h => HRT.out.2 (Or.inl h), fun h => ⟨fun _ => h, fun h => by omega⟩⟩
        · exact ⟨S, (HK5.out.keep HB.out).cell rfl, by omega, by omega, fun h => HRT.out.2 (Or.inr h), fun h => ⟨fun _ => HN.out.1 (by omega), fun _ => h⟩⟩
      obtain ⟨f, hfc, hf0, hf1, hfy, hfn⟩ := hf
      have HFY := Lib.hid hfy
      have HFN := Lib.hid hfn
      have HBV := Lib.hid (HB5.out.tr HB.out)
      have c0 := (HP5.out.keep HB.out).cell (i := 0) rfl
      have HRAW := Lib.hid (raw_any ps HPR.out inp HNI.out f hf0 hf1 _ _ WV (HSL.out.keep HBV.out) (HU5.out.keep HB.out))
      have i0 : (0 : Int) ≤ j := by omega
      have i1 : (j : Int) < 2 := by omega
      clear hf0 hf1 hfy hfn HN
      go_wp2_with fail
      refine HRAW.out.mono ?_
      rintro r W6 ⟨u2, out, rfl, hran, hown, hb6⟩
      obtain ⟨Au, cu, rfl⟩ := own_lit hown
      have HRN := Lib.hid hran
      have HOW := Lib.hid (Sl.own_ev hown rfl)
      have HB6 := Lib.hid (HB.out.tr hb6)
      have HBW := Lib.hid (HBV.out.tr hb6)
      clear hran hown hb6 hfc c0 HRAW HBV
      by_cases hle : l.length ≤ out.length
      rotate_left
      · have dl : decide ((l.length : Int) ≤ out.length) = false := decide_eq_false (by omega)
        have dl2 : decide (l.length ≤ out.length) = false := decide_eq_false hle
        have HN2 := Lib.hid (HFN.out (Begins.not HRN.out (fun h => hle h.1)))
        clear hle
        go_wp2
        go_roundw
        case rel => exact ⟨j + 1, by go_num, by omega, HN2, HB6⟩
        case measure => simp [intOf]; omega
      have dl : decide ((l.length : Int) ≤ out.length) = true := decide_eq_true (by omega)
      have hcu : out.length ≤ cu := by
        obtain ⟨A', c', he, h1, -, -⟩ := HOW.out
        injection he with _ _ he
        subst he
        exact h1
      have hcm : cu ≤ maxLen ∧ (Au = none → cu = 0) := by
        obtain ⟨A', c', he, -, h1, -⟩ := HOW.out
        injection he with he0 _ he
        subst he he0
        exact h1
      have HTK : Hid (Sl evR W6 (.slice Au l.length cu) (out.take l.length)) := Lib.hid (by
        have h2 := Sl.cut (r := evR) (w := W6) (A := Au) (A' := Au) (c := cu) (C' := cu) (i := 0) (j := l.length) (xs := out) hcu hcm (fun hp => by obtain ⟨b2, o2, he, hA⟩ := HOW.out.lies hp; exact ⟨b2, o2, he, hA⟩) hle (by cases Au with
          | none => split <;> rfl
          | some p => split <;> simp [Addr.add]) rfl
        rw [List.drop_zero, Nat.sub_zero] at h2
        exact h2)
      have HEQ := Lib.hid (equalEvents_any _ _ (out.take l.length) l W6 HTK.out (HEV.out.keep HBW.out) (by unfold ok64; rw [List.length_take]; omega) (by unfold ok64; omega))
      have HLE := Lib.hid hle
      clear hcm
      go_wp2_with fail
      refine HEQ.out.mono ?_
      rintro r W7 ⟨rfl, hb7⟩
      have HB7 := Lib.hid (HB6.out.tr hb7)
      have HBW7 := Lib.hid (HBW.out.tr hb7)
      clear hb7 HEQ HTK
      by_cases ht : out.take l.length = l
      · have dt : decide (out.take l.length = l) = true := decide_eq_true ht
        have HR : Hid (RightP ps l) := Lib.hid (HFY.out ⟨out, HRN.out, HLE.out, ht⟩)
        clear ht
        go_wp2
        go_ret
        exact ⟨true, rfl, yesB HR.out, HBW7.out⟩
      · have dt : decide (out.take l.length = l) = false := decide_eq_false ht
        have HN2 := Lib.hid (HFN.out (Begins.not HRN.out (fun h => ht h.2)))
        clear ht
        go_wp2
        go_roundw
        case rel => exact ⟨j + 1, by go_num, by omega, HN2, HB7⟩
        case measure => simp [intOf]; omega
theorem cameL_take : ∀ (l : List Ev) (acc : List Int), (∀ x ∈ valsL l, Num x) → acc.length ≤ 50 → (∀ i x, (valsL l)[i]? = some x → 50 ≤ acc.length + i → x = 0) → cameL l acc = some ((acc ++ valsL l).take 50)
  | [], acc, _, h50, _ => by rw [cameL]; simp [valsL, List.take_of_length_le h50]
  | e :: l, acc, hn, h50, hz => by
    rw [cameL]
    by_cases h3 : e.kind = 3
    · have hv : valsL (e :: l) = e.value :: valsL l := by simp [valsL, h3]
      rw [hv] at hn hz ⊢
      rw [if_neg (fun h => h h3)]
      have hne : Num e.value := hn _ (by simp)
      by_cases h5 : acc.length = 50
      · have h0 : e.value = 0 := hz 0 _ rfl (by omega)
        rw [if_neg (by rintro (h | h); exact h hne; exact h.2 h0), if_neg (by omega), cameL_take l acc (fun x hx => hn x (by simp [hx])) h50 (fun i x hx hi => hz (i + 1) x (by simpa using hx) (by omega)),
          List.take_append_of_le_length (by omega), List.take_append_of_le_length (by omega)]
      · rw [if_neg (by rintro (h | h); exact h hne; exact h5 h.1), if_pos (by omega), cameL_take l (acc ++ [e.value]) (fun x hx => hn x (by simp [hx])) (by simp; omega) (fun i x hx hi => hz (i + 1) x (by simpa using hx) (by simp at hi; omega)), List.append_assoc]
        rfl
    · have hv : valsL (e :: l) = valsL l := by simp [valsL, h3]
      rw [hv] at hn hz ⊢
      rw [if_pos h3]
      exact cameL_take l acc hn h50 hz
theorem valsL_pre {l : List Ev} {N i : Nat} {x : Int} (h : (valsL (l.take N))[i]? = some x) : (valsL l)[i]? = some x := by
  have h1 : l = l.take N ++ l.drop N := (List.take_append_drop N l).symm
  rw [h1, valsL_app, List.getElem?_append_left (List.getElem?_eq_some_iff.1 h).1]
  exact h
theorem getD_num {inp : List Int} (h : ∀ n ∈ inp, Num n) (i : Nat) : Num (inp.getD i 0) := by
  rw [List.getD_eq_getElem?_getD]
  cases hi : inp[i]? with
  | none => unfold Num; decide
  | some x => exact h x (List.mem_of_getElem? hi)
section
variable {ps : List PF} {inp : List Int} {fuel : Int} {out : List Ev}
/-- EACH BEGINNING OF A TRACE IS RIGHT -/
theorem Ran.right (hp : Prog ps) (hi : ∀ n ∈ inp, Num n) (h50 : inp.length ≤ 50) (hf : 0 ≤ fuel) (hf5 : fuel ≤ 500) (h : Ran ps inp fuel out) {N : Nat} (hN : N ≤ out.length) : RightP ps (out.take N) := by
  have hfed : ∀ i x, (valsL (out.take N))[i]? = some x → x = inp.getD i 0 := fun i x hx => h.fed hf i x (valsL_pre hx)
  have hz : ∀ i x, (valsL (out.take N))[i]? = some x → 50 ≤ ([] : List Int).length + i → x = 0 := fun i x hx hi => by
    rw [hfed i x hx, List.getD_eq_getElem?_getD, List.getElem?_eq_none (by simp at hi; omega)]
    rfl
  have hc := cameL_take (out.take N) [] (fun x hx => by
    obtain ⟨i, hi'⟩ := List.getElem?_of_mem hx
    rw [hfed i x hi']
    exact getD_num hi i) (by simp) hz
  rw [List.nil_append] at hc
  have hin : ∀ i, i < (valsL (out.take N)).length → inp.getD i 0 = ((valsL (out.take N)).take 50).getD i 0 := fun i hi => by
    have hx := List.getElem?_eq_getElem hi
    have h1 := hfed i _ hx
    rw [List.getD_eq_getElem?_getD (l := List.take 50 _), List.getElem?_take]
    split
    · rw [hx, Option.getD_some]; exact h1.symm
    · rw [Option.getD_none, ← h1]
      exact hz i _ hx (by simp; omega)
  have hs : (stepsE (out.take N) : Int) ≤ fuel := by
    have h1 := h.steps hf
    have h2 : stepsL out = stepsL (out.take N) + stepsL (out.drop N) := by rw [← stepsL_app, List.take_append_drop]
    have h3 : stepsE (out.take N) = stepsL (out.take N) := rfl
    omega
  have hnum := cameL_num hc (fun n hn => by simp at hn)
  have key : ∀ G : Int, 0 ≤ G → (fuel = G ∨ (fuel ≤ G ∧ (N < out.length ∨ ∀ l e, out = l ++ [e] → e.value ≠ 1))) → Begins ps ((valsL (out.take N)).take 50) (out.take N) G := fun G hG hc2 => by
    obtain ⟨o2, h2, -⟩ := Ran.ex hp hnum hG
    obtain ⟨h3, h4⟩ := Ran.sim hf hG h h2 hN hc2 hin
    have hl : (out.take N).length = N := by rw [List.length_take]; omega
    exact ⟨o2, h2, by rw [hl]; exact h3, by rw [hl]; exact h4.symm⟩
  refine ⟨_, hc, by omega, ?_⟩
  by_cases hlt : N < out.length
  · exact Or.inl (key 500 (by omega) (Or.inr ⟨hf5, Or.inl hlt⟩))
  obtain ⟨l, e, h1, -, -, h4⟩ := h.last hf
  by_cases hv : e.value = 1
  · refine Or.inr (key _ (by omega) (Or.inl ?_))
    rw [List.take_of_length_le (by omega), ← h4 hv]
    rfl
  · refine Or.inl (key 500 (by omega) (Or.inr ⟨hf5, Or.inr fun l' e' h' => ?_⟩))
    rw [h1] at h'
    have := List.append_inj' h' rfl
    have h2 := this.2
    injection h2 with h2
    rw [← h2]
    exact hv
end
end Go.Proofs.Ytgkpplbomciehaa
