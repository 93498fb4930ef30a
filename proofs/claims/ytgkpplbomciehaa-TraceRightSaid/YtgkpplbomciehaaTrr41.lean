/- How many tasks wait; one step of the document's machine. What comes in is right, by the program: walked. Each lemma states its own conditions. -/
import Derived.Test.YtgkpplbomciehaaTrr40
import Derived.Test.YtgkpplbomciehaaTrr32
namespace Go.Proofs.Ytgkpplbomciehaa
open Go.RowKit
/-- tasks that wait are few -/
def TB (m : Mc) : Prop := 0 ≤ m.steps ∧ ∀ f ∈ m.frames, (f.tasks.length : Int) ≤ 50 * (m.steps + 1)
theorem TB.write {m : Mc} (h : TB m) (a v i n : Int) : TB (m.write a v i n) := by
  refine ⟨h.1, fun f hf => ?_⟩
  unfold Mc.write Mc.top Mc.tell at hf
  dsimp only at hf
  cases hm : m.frames with
  | nil => rw [hm] at hf; simp at hf
  | cons g r =>
    rw [hm] at hf
    rcases List.mem_cons.1 hf with rfl | hf
    · exact h.2 g (by rw [hm]; simp)
    · exact h.2 f (by rw [hm]; simp [hf])
theorem TB.writes (a : Int) : ∀ (l : List Int) (i : Nat) {m : Mc}, TB m → TB (Mc.writes a l i m)
  | [], _, _, h => h
  | n :: l, i, _, h => TB.writes a l (i + 1) (h.write a i 0 n)
theorem TB.top {m : Mc} {f : Fr} {rest : List Fr} (hf : m.frames = f :: rest) (h : TB m) {g : Fr → Fr} (hg : ((g f).tasks.length : Int) ≤ 50 * (m.steps + 1)) : TB (m.top g) := by
  refine ⟨h.1, fun x hx => ?_⟩
  unfold Mc.top at hx
  dsimp only at hx
  rw [hf] at hx
  rcases List.mem_cons.1 hx with rfl | hx
  · exact hg
  · exact h.2 x (by rw [hf]; simp [hx])
theorem TB.step {ps : List PF} {fuel : Int} {m : Mc} {f : Fr} {rest : List Fr} (hp : Prog ps) (h : Good ps fuel m f rest) (hb : TB m) : TB (m.do_ ps fuel) := by
  obtain ⟨hfr, ⟨g, hf0, hg, hfit, hts, ha1, ha2⟩, hfn, hrst, h5, s0, s1, m0, m1, hin, hlen, hon⟩ := h
  have hbf := hb.2 f (by rw [hfr]; simp)
  have hbr : ∀ c ∈ rest, (c.tasks.length : Int) ≤ 50 * (m.steps + 1) := fun c hc => hb.2 c (by rw [hfr]; simp [hc])
  cases htk : f.tasks with
  | nil => rw [htk] at hts; exact hts.elim
  | cons t ts =>
    rw [htk] at hts hbf
    rw [List.length_cons] at hbf
    cases t with
    | back =>
      rw [Mc.do_back hfr htk]
      cases rest with
      | nil => exact hb
      | cons c rest =>
        obtain ⟨hcok, ⟨x, a, cts, hct, hk3⟩, hcfn, hrst'⟩ := hrst
        rw [Mc.back_one hct]
        split
        · exact hb
        · have hbc := hbr c (by simp)
          rw [hct, List.length_cons] at hbc
          have hM : TB { m.tell 6 c.at_ 0 0 ((ps.getD f.fn.toNat noF).result.val f.vars).1 with frames := { c with tasks := cts } :: rest } := by
            refine ⟨hb.1, fun y hy => ?_⟩
            rcases List.mem_cons.1 hy with rfl | hy
            · show (cts.length : Int) ≤ 50 * (m.steps + 1)
              omega
            · show (y.tasks.length : Int) ≤ 50 * (m.steps + 1)
              exact hbr y (List.mem_cons_of_mem _ hy)
          exact hM.write _ _ _ _
    | cmd x a =>
      rw [Mc.do_cmd hfr htk]
      obtain ⟨hx, hts'⟩ := hts
      obtain ⟨calls, hcl, hci⟩ := hx.is
      obtain ⟨hx0, hx40, -⟩ := id hx
      have hcnt := PC.cnt_eq x
      have ht := cntP_len x.thn
      have he := cntP_len x.els
      by_cases hst : m.steps = fuel
      · rw [if_pos hst]; exact hb
      rw [if_neg hst]
      have hB1 : ∀ T : List Tk, (T.length : Int) ≤ 50 * (m.steps + 2) → TB (Mc.tell { m with steps := m.steps + 1, frames := { f with at_ := a, tasks := T } :: rest } 1 a 0 0 0) := fun T hT => by
        refine ⟨by show 0 ≤ m.steps + 1; omega, fun y hy => ?_⟩
        show (y.tasks.length : Int) ≤ 50 * (m.steps + 1 + 1)
        rcases List.mem_cons.1 hy with rfl | hy
        · show (T.length : Int) ≤ _
          omega
        · have := hbr y hy
          omega
      by_cases h3 : x.kind = 3
      · rw [if_pos h3]
        have hB0 := hB1 f.tasks (by rw [htk, List.length_cons]; omega)
        have hfn3 := hci.fn h3
        have hgg := Prog.get hfn3.1 (show x.fn < ps.length by omega)
        obtain ⟨c1, c2, -⟩ := hp.cmds hgg
        have hlen2 := cntP_len (ps.getD x.fn.toNat noF).cmds
        unfold Mc.call
        split
        · exact hB0
        split
        · exact hB0
        refine TB.writes _ _ _ ⟨hB0.1, fun y hy => ?_⟩
        rcases List.mem_cons.1 hy with rfl | hy
        · show ((pushT _ _ ++ [Tk.back]).length : Int) ≤ 50 * (m.steps + 1 + 1)
          rw [List.length_append, pushT_len]
          simp only [List.length_cons, List.length_nil]
          omega
        · exact hB0.2 y hy
      · rw [if_neg h3]
        have hB := hB1 ts (by omega)
        have hfr2 : (Mc.tell { m with steps := m.steps + 1, frames := { f with at_ := a, tasks := ts } :: rest } 1 a 0 0 0).frames = { f with at_ := a, tasks := ts } :: rest := rfl
        have hs2 : (Mc.tell { m with steps := m.steps + 1, frames := { f with at_ := a, tasks := ts } :: rest } 1 a 0 0 0).steps = m.steps + 1 := rfl
        generalize Mc.tell { m with steps := m.steps + 1, frames := { f with at_ := a, tasks := ts } :: rest } 1 a 0 0 0 = M at *
        unfold Mc.cmd
        dsimp only
        split
        · exact TB.write (m := Mc.tell { M with inp := M.inp.tail } 3 a 0 0 (M.inp.headD 0)) hB _ _ _ _
        split
        · exact hB
        split
        · exact hB
        split
        · split
          · exact hB.write _ _ _ _
          · exact hB
        split
        · exact hB.write _ _ _ _
        split
        · exact hB
        split
        · refine hB.top hfr2 ?_
          dsimp only
          rw [hs2, List.length_append]
          split
          · rw [pushT_len]
            omega
          · rw [pushT_len]
            omega
        split
        · refine hB.top hfr2 ?_
          dsimp only
          rw [hs2, List.length_append, List.length_cons, pushT_len]
          omega
        · exact hB
/-- one step -/
theorem mdo_any {w0 w : World} {ps : List PF} {fuel : Int} {inp : List Int} {q : Nat} {m : Mc} {f : Fr} {rest : List Fr} (h : DocM w0 ps fuel inp q w m) (hp : Prog ps) (hg : Good ps fuel m f rest) (hb : TB m) (hfu : fuel ≤ 10000) (hinl : inp.length ≤ 1000000) :
    Calls Try.prog 76 #[.pointer (some ⟨q, 0, none⟩)] w fun r w' => r = .returned (.tuple #[]) ∧ DocM w0 ps fuel inp q w' (m.do_ ps fuel) := by
  obtain ⟨hfr, ⟨G, hf0, hG, hfit, hts, ha1, ha2⟩, hfn, hrst, h5, s0, s1, m0, m1, hin, hlen, hon⟩ := hg
  have hbf := hb.2 f (by rw [hfr]; simp)
  have hbr : ∀ c ∈ rest, (c.tasks.length : Int) ≤ 50 * (m.steps + 1) := fun c hc => hb.2 c (by rw [hfr]; simp [hc])
  obtain ⟨vp, vin, vfr, vout, taken, xs, h⟩ := h
  have hl := h.frs.len
  rw [hfr] at hl
  obtain ⟨fnum, ff, fa, fv, tks⟩ := f
  dsimp only at hf0 hG hfit hts hbf hfn
  obtain _ | ⟨x, xs⟩ := xs
  · simp at hl
  cases tks with
  | nil => exact hts.elim
  | cons t ts =>
    rw [List.length_cons] at hbf
    cases t with
    | back =>
      rw [Mc.do_back hfr rfl]
      refine mdo_back h hfr h5 (by omega) fun W vfr2 xs2 hW => ?_
      have hl2 := hW.frs.len
      rw [hfr] at hl2
      cases rest with
      | nil =>
        obtain _ | ⟨x2, _ | ⟨y2, ys⟩⟩ := xs2
        · simp at hl2
        · exact mback_end hW hfr (by omega)
        · simp at hl2
      | cons c rest =>
        obtain ⟨⟨G2, g20, hG2, hfit2, hts2, -⟩, ⟨X, a, cts, hct, hk3⟩, hcfn, -⟩ := hrst
        have hbc := hbr c (by simp)
        rw [hct, List.length_cons] at hbc
        obtain ⟨cn, cf, ca, cv, ctk⟩ := c
        dsimp only at hct hts2 hfit2
        subst hct
        obtain ⟨calls, hcl, hci⟩ := hts2.1.is
        have hv := hci.var (by omega)
        obtain ⟨l, hvl⟩ : ∃ l, cv[X.var.toNat]? = some l := ⟨_, List.getElem?_eq_getElem (by rw [hfit2.1]; omega)⟩
        have hl0 : 0 < l.length := (hfit2.2 _ l hvl).1 (hci.one (by omega) (by omega))
        have hfn2 := hfn (by simp)
        obtain _ | ⟨x2, _ | ⟨y2, ys⟩⟩ := xs2
        · simp at hl2
        · simp at hl2
        · exact mback_on hW hfr (by simp only [List.length_cons] at h5; omega) (by omega) hf0 hG hfit ((hp.fns _ _ hG).res (by omega)) (by omega) hv.1 hvl hl0
    | cmd X a =>
      obtain ⟨hx, hts'⟩ := hts
      exact mdo_cmd h hfr h5 (by omega) hp hfit hx (by omega) s0 (by omega) (by omega) (by omega) hinl
def SaysV (F : Nat) (p : List Int → Bool) : Prop := ∀ (v : Value) (x : List Int) (W : World), Sl intR W v x → Calls Try.prog F #[v] W fun r w' => r = .returned (.bool (p x)) ∧ Bel W w'
/-- no number of a run -/
def notNum (n : Int) : Bool := !decide (Num n)
theorem rd_says : Says 85 notNum := by
  intro x W
  have HN := Lib.hid (number_any x)
  have HB := Lib.hid (Bel.rfl_ W)
  unfold notNum
  generalize decide (Num x) = T at *
  go_enter Try.func85, Try.ntmps85
  go_wp2_with fail
  refine (HN.out _).mono ?_
  rintro r w1 ⟨rfl, rfl⟩
  cases T with
  | true =>
    go_wp2
    go_ret
    exact ⟨rfl, HB.out⟩
  | false =>
    go_wp2
    go_ret
    exact ⟨rfl, HB.out⟩
set_option maxRecDepth 20000 in
set_option maxHeartbeats 4000000 in
theorem index_rd (p : Int → Bool) (l : List Int) (v : Value) (w : World) (h : Sl intR w v l) (IH : Says 85 p) :
    Calls Try.prog 108 #[v, .func (.func 85) #[] #[]] w fun r w' => ∃ k : Int, r = .returned (.int .i64 k) ∧ decide (0 ≤ k) = l.any p ∧ Bel w w' := by
  have HSL := Lib.hid h
  have HI := Lib.hid IH
  have HT : Hid ((l.drop 0).any p = l.any p) := Lib.hid rfl
  generalize l.any p = T at *
  obtain ⟨A, c, rfl, hll⟩ := sl_lit h
  have HRF := Lib.hid (Bel.rfl_ w)
  clear IH h
  go_enter Try.func108, Try.ntmps108
  go_wp2
  go_loopw [8] (fun i wr => ∃ j : Nat, i = .int .i64 j ∧ j ≤ l.length ∧ Hid ((l.drop j).any p = T) ∧ Hid (Bel w wr)) (fun i _ => l.length - (intOf i).toNat)
  case atStart => exact ⟨0, rfl, Nat.zero_le _, HT, HRF⟩
  case round =>
    obtain ⟨j, rfl, hj, HS, HB⟩ := hrel
    clear HT HRF
    by_cases hlt : j < l.length
    rotate_left
    · have hdd : decide ((j : Int) < l.length) = false := decide_eq_false (by omega)
      have HR : Hid (false = T) := Lib.hid (by rw [← HS.out, List.drop_eq_nil_of_le (by omega)]; rfl)
      go_wp2
      go_ret
      exact ⟨-1, rfl, by rw [← HR.out]; rfl, HB.out⟩
    have hdd : decide ((j : Int) < l.length) = true := decide_eq_true (by omega)
    obtain ⟨x, hx⟩ : ∃ x, l[j]? = some x := ⟨_, List.getElem?_eq_getElem hlt⟩
    obtain ⟨b, o, rfl, hA⟩ := (HSL.out.keep HB.out).lies (by omega)
    have HCA := Lib.hid (intR.cell hA hx)
    have HD : Hid ((p x || (l.drop (j + 1)).any p) = T) := Lib.hid (by rw [← any_drop hx]; exact HS.out)
    have i0 : (0 : Int) ≤ j := by omega
    have i1 : (j : Int) < l.length := by omega
    clear hx HS hA
    go_upto_region 4 with fail
    refine wl_region ?_
    try dsimp only [List.append]
    refine wl_do (some 11) (.func (.func 85) #[] #[]) rfl (by kernel_rfl) (by kernel_rfl) ?_
    refine wl_do (some 12) (.slice (some ⟨b, o, none⟩) l.length c) rfl (by kernel_rfl) (by kernel_rfl) ?_
    refine wl_do (some 13) (.int .i64 j) rfl (by kernel_rfl) (by kernel_rfl) ?_
    refine wl_do (some 14) (.pointer (some ⟨b, o + j, none⟩)) rfl (by kernel_rfl) (by go_simp) ?_
    refine wl_do (some 15) (.int .i64 x) rfl (by kernel_rfl) (rl_int rfl (by kernel_rfl) HCA.out) ?_
    refine wl_call (some 16) rfl (by kernel_rfl) 85 #[.int .i64 x] (by kernel_rfl) (HI.out x _) ?_
    rintro r W3 ⟨rfl, hb⟩
    replace HB := Lib.hid (HB.out.tr hb)
    clear hb
    refine ⟨_, rfl, ?_⟩
    generalize p x = sm at *
    refine wl_nil ?_
    try simp only [Act.put, List.setIfInBounds_toArray, List.set_cons_zero, List.set_cons_succ]
    cases sm with
    | false =>
      have HD2 : Hid ((l.drop (j + 1)).any p = T) := Lib.hid (by rw [← HD.out, Bool.false_or])
      go_wp2
      go_roundw
      case rel => exact ⟨j + 1, by go_num, by omega, HD2, HB⟩
      case measure => simp [intOf]; omega
    | true =>
      have HD2 : Hid (true = T) := Lib.hid (by rw [← HD.out, Bool.true_or])
      go_wp2
      go_ret
      exact ⟨j, rfl, by rw [← HD2.out]; exact decide_eq_true i0, HB.out⟩
theorem contains_rd (p : Int → Bool) (l : List Int) (v : Value) (w : World) (h : Sl intR w v l) (IH : Says 85 p) :
    Calls Try.prog 59 #[v, .func (.func 85) #[] #[]] w fun r w' => r = .returned (.bool (l.any p)) ∧ Bel w w' := by
  have HC := Lib.hid (index_rd p l v w h IH)
  obtain ⟨A, c, rfl, -⟩ := h
  generalize l.any p = T at *
  clear IH
  go_enter Try.func59, Try.ntmps59
  go_wp2_with fail
  refine HC.out.mono ?_
  rintro r w1 ⟨k, rfl, hk, hb⟩
  have hk2 : decide (0 ≤ k) = T := hk
  have HB := Lib.hid hb
  clear hb HC hk
  cases T with
  | true =>
    go_wp2
    go_ret
    exact ⟨rfl, HB.out⟩
  | false =>
    go_wp2
    go_ret
    exact ⟨rfl, HB.out⟩
theorem e2_says : Says 68 notNum := by
  intro x W
  have HN := Lib.hid (number_any x)
  have HB := Lib.hid (Bel.rfl_ W)
  unfold notNum
  generalize decide (Num x) = T at *
  go_enter Try.func68, Try.ntmps68
  go_wp2_with fail
  refine (HN.out _).mono ?_
  rintro r w1 ⟨rfl, rfl⟩
  cases T with
  | true =>
    go_wp2
    go_ret
    exact ⟨rfl, HB.out⟩
  | false =>
    go_wp2
    go_ret
    exact ⟨rfl, HB.out⟩
set_option maxRecDepth 20000 in
set_option maxHeartbeats 4000000 in
theorem index_e2 (p : Int → Bool) (l : List Int) (v : Value) (w : World) (h : Sl intR w v l) (IH : Says 68 p) :
    Calls Try.prog 108 #[v, .func (.func 68) #[] #[]] w fun r w' => ∃ k : Int, r = .returned (.int .i64 k) ∧ decide (0 ≤ k) = l.any p ∧ Bel w w' := by
  have HSL := Lib.hid h
  have HI := Lib.hid IH
  have HT : Hid ((l.drop 0).any p = l.any p) := Lib.hid rfl
  generalize l.any p = T at *
  obtain ⟨A, c, rfl, hll⟩ := sl_lit h
  have HRF := Lib.hid (Bel.rfl_ w)
  clear IH h
  go_enter Try.func108, Try.ntmps108
  go_wp2
  go_loopw [8] (fun i wr => ∃ j : Nat, i = .int .i64 j ∧ j ≤ l.length ∧ Hid ((l.drop j).any p = T) ∧ Hid (Bel w wr)) (fun i _ => l.length - (intOf i).toNat)
  case atStart => exact ⟨0, rfl, Nat.zero_le _, HT, HRF⟩
  case round =>
    obtain ⟨j, rfl, hj, HS, HB⟩ := hrel
    clear HT HRF
    by_cases hlt : j < l.length
    rotate_left
    · have hdd : decide ((j : Int) < l.length) = false := decide_eq_false (by omega)
      have HR : Hid (false = T) := Lib.hid (by rw [← HS.out, List.drop_eq_nil_of_le (by omega)]; rfl)
      go_wp2
      go_ret
      exact ⟨-1, rfl, by rw [← HR.out]; rfl, HB.out⟩
    have hdd : decide ((j : Int) < l.length) = true := decide_eq_true (by omega)
    obtain ⟨x, hx⟩ : ∃ x, l[j]? = some x := ⟨_, List.getElem?_eq_getElem hlt⟩
    obtain ⟨b, o, rfl, hA⟩ := (HSL.out.keep HB.out).lies (by omega)
    have HCA := Lib.hid (intR.cell hA hx)
    have HD : Hid ((p x || (l.drop (j + 1)).any p) = T) := Lib.hid (by rw [← any_drop hx]; exact HS.out)
    have i0 : (0 : Int) ≤ j := by omega
    have i1 : (j : Int) < l.length := by omega
    clear hx HS hA
    go_upto_region 4 with fail
    refine wl_region ?_
    try dsimp only [List.append]
    refine wl_do (some 11) (.func (.func 68) #[] #[]) rfl (by kernel_rfl) (by kernel_rfl) ?_
    refine wl_do (some 12) (.slice (some ⟨b, o, none⟩) l.length c) rfl (by kernel_rfl) (by kernel_rfl) ?_
    refine wl_do (some 13) (.int .i64 j) rfl (by kernel_rfl) (by kernel_rfl) ?_
    refine wl_do (some 14) (.pointer (some ⟨b, o + j, none⟩)) rfl (by kernel_rfl) (by go_simp) ?_
    refine wl_do (some 15) (.int .i64 x) rfl (by kernel_rfl) (rl_int rfl (by kernel_rfl) HCA.out) ?_
    refine wl_call (some 16) rfl (by kernel_rfl) 68 #[.int .i64 x] (by kernel_rfl) (HI.out x _) ?_
    rintro r W3 ⟨rfl, hb⟩
    replace HB := Lib.hid (HB.out.tr hb)
    clear hb
    refine ⟨_, rfl, ?_⟩
    generalize p x = sm at *
    refine wl_nil ?_
    try simp only [Act.put, List.setIfInBounds_toArray, List.set_cons_zero, List.set_cons_succ]
    cases sm with
    | false =>
      have HD2 : Hid ((l.drop (j + 1)).any p = T) := Lib.hid (by rw [← HD.out, Bool.false_or])
      go_wp2
      go_roundw
      case rel => exact ⟨j + 1, by go_num, by omega, HD2, HB⟩
      case measure => simp [intOf]; omega
    | true =>
      have HD2 : Hid (true = T) := Lib.hid (by rw [← HD.out, Bool.true_or])
      go_wp2
      go_ret
      exact ⟨j, rfl, by rw [← HD2.out]; exact decide_eq_true i0, HB.out⟩
theorem contains_e2 (p : Int → Bool) (l : List Int) (v : Value) (w : World) (h : Sl intR w v l) (IH : Says 68 p) :
    Calls Try.prog 59 #[v, .func (.func 68) #[] #[]] w fun r w' => r = .returned (.bool (l.any p)) ∧ Bel w w' := by
  have HC := Lib.hid (index_e2 p l v w h IH)
  obtain ⟨A, c, rfl, -⟩ := h
  generalize l.any p = T at *
  clear IH
  go_enter Try.func59, Try.ntmps59
  go_wp2_with fail
  refine HC.out.mono ?_
  rintro r w1 ⟨k, rfl, hk, hb⟩
  have hk2 : decide (0 ≤ k) = T := hk
  have HB := Lib.hid hb
  clear hb HC hk
  cases T with
  | true =>
    go_wp2
    go_ret
    exact ⟨rfl, HB.out⟩
  | false =>
    go_wp2
    go_ret
    exact ⟨rfl, HB.out⟩
theorem vv_says : SaysV 67 (fun l => l.any notNum) := by
  intro v x W h
  show Calls Try.prog 67 #[v] W fun r w' => r = .returned (.bool (x.any notNum)) ∧ Bel W w'
  have HC := Lib.hid (contains_e2 notNum x v W h e2_says)
  obtain ⟨A, c, rfl, -⟩ := sl_lit h
  clear h
  generalize x.any notNum = T at *
  go_enter Try.func67, Try.ntmps67
  go_wp2_with fail
  refine HC.out.mono ?_
  rintro r w1 ⟨rfl, hb⟩
  have HB := Lib.hid hb
  clear hb
  go_wp2
  go_ret
  exact ⟨rfl, HB.out⟩
set_option maxRecDepth 20000 in
set_option maxHeartbeats 4000000 in
theorem index_vv (p : List Int → Bool) (l : List (List Int)) (v : Value) (w : World) (h : Sl intR.slice w v l) (IH : SaysV 67 p) :
    Calls Try.prog 109 #[v, .func (.func 67) #[] #[]] w fun r w' => ∃ k : Int, r = .returned (.int .i64 k) ∧ decide (0 ≤ k) = l.any p ∧ Bel w w' := by
  have HSL := Lib.hid h
  have HI := Lib.hid IH
  have HT : Hid ((l.drop 0).any p = l.any p) := Lib.hid rfl
  generalize l.any p = T at *
  obtain ⟨A, c, rfl, hll⟩ := sl_lit h
  have HRF := Lib.hid (Bel.rfl_ w)
  clear IH h
  go_enter Try.func109, Try.ntmps109
  go_wp2
  go_loopw [8] (fun i wr => ∃ j : Nat, i = .int .i64 j ∧ j ≤ l.length ∧ Hid ((l.drop j).any p = T) ∧ Hid (Bel w wr)) (fun i _ => l.length - (intOf i).toNat)
  case atStart => exact ⟨0, rfl, Nat.zero_le _, HT, HRF⟩
  case round =>
    obtain ⟨j, rfl, hj, HS, HB⟩ := hrel
    clear HT HRF
    by_cases hlt : j < l.length
    rotate_left
    · have hdd : decide ((j : Int) < l.length) = false := decide_eq_false (by omega)
      have HR : Hid (false = T) := Lib.hid (by rw [← HS.out, List.drop_eq_nil_of_le (by omega)]; rfl)
      go_wp2
      go_ret
      exact ⟨-1, rfl, by rw [← HR.out]; rfl, HB.out⟩
    have hdd : decide ((j : Int) < l.length) = true := decide_eq_true (by omega)
    obtain ⟨x, hx⟩ : ∃ x, l[j]? = some x := ⟨_, List.getElem?_eq_getElem hlt⟩
    obtain ⟨b, o, c2, A2, cl, he, hca, hsv⟩ := vars_at (HSL.out.keep HB.out) hx
    injection he with he1 _ he2
    subst he1 he2
    have HCA := Lib.hid hca
    have HSV := Lib.hid hsv
    have HD : Hid ((p x || (l.drop (j + 1)).any p) = T) := Lib.hid (by rw [← any_drop hx]; exact HS.out)
    have i0 : (0 : Int) ≤ j := by omega
    have i1 : (j : Int) < l.length := by omega
    clear hx HS hca hsv
    go_upto_region 4 with fail
    refine wl_region ?_
    try dsimp only [List.append]
    refine wl_do (some 11) (.func (.func 67) #[] #[]) rfl (by kernel_rfl) (by kernel_rfl) ?_
    refine wl_do (some 12) (.slice (some ⟨b, o, none⟩) l.length c) rfl (by kernel_rfl) (by kernel_rfl) ?_
    refine wl_do (some 13) (.int .i64 j) rfl (by kernel_rfl) (by kernel_rfl) ?_
    refine wl_do (some 14) (.pointer (some ⟨b, o + j, none⟩)) rfl (by kernel_rfl) (by go_simp) ?_
    refine wl_do (some 15) (.slice A2 x.length cl) rfl (by kernel_rfl) (rl_is rfl (by kernel_rfl) HCA.out) ?_
    refine wl_call (some 16) rfl (by kernel_rfl) 67 #[.slice A2 x.length cl] (by kernel_rfl) (HI.out _ x _ HSV.out) ?_
    rintro r W3 ⟨rfl, hb⟩
    replace HB := Lib.hid (HB.out.tr hb)
    clear hb
    refine ⟨_, rfl, ?_⟩
    generalize p x = sm at *
    refine wl_nil ?_
    try simp only [Act.put, List.setIfInBounds_toArray, List.set_cons_zero, List.set_cons_succ]
    cases sm with
    | false =>
      have HD2 : Hid ((l.drop (j + 1)).any p = T) := Lib.hid (by rw [← HD.out, Bool.false_or])
      go_wp2
      go_roundw
      case rel => exact ⟨j + 1, by go_num, by omega, HD2, HB⟩
      case measure => simp [intOf]; omega
    | true =>
      have HD2 : Hid (true = T) := Lib.hid (by rw [← HD.out, Bool.true_or])
      go_wp2
      go_ret
      exact ⟨j, rfl, by rw [← HD2.out]; exact decide_eq_true i0, HB.out⟩
theorem contains_vv (p : List Int → Bool) (l : List (List Int)) (v : Value) (w : World) (h : Sl intR.slice w v l) (IH : SaysV 67 p) :
    Calls Try.prog 62 #[v, .func (.func 67) #[] #[]] w fun r w' => r = .returned (.bool (l.any p)) ∧ Bel w w' := by
  have HC := Lib.hid (index_vv p l v w h IH)
  obtain ⟨A, c, rfl, -⟩ := h
  generalize l.any p = T at *
  clear IH
  go_enter Try.func62, Try.ntmps62
  go_wp2_with fail
  refine HC.out.mono ?_
  rintro r w1 ⟨k, rfl, hk, hb⟩
  have hk2 : decide (0 ≤ k) = T := hk
  have HB := Lib.hid hb
  clear hb HC hk
  cases T with
  | true =>
    go_wp2
    go_ret
    exact ⟨rfl, HB.out⟩
  | false =>
    go_wp2
    go_ret
    exact ⟨rfl, HB.out⟩
/-- what is wrong with what comes in, and fuel -/
def readyE (inp : List Int) (fuel : Int) : Int := if inp.length > 50 then 2 else if inp.any notNum = true ∨ fuel < 0 ∨ fuel > 500 then 3 else 0
set_option maxRecDepth 20000 in
theorem ready_any (inp : List Int) (fuel : Int) (v : Value) (w : World) (h : Sl intR w v inp) : Calls Try.prog 46 #[v, .int .i64 fuel] w fun r w' => r = .returned (.int .i64 (readyE inp fuel)) ∧ Bel w w' := by
  have HC := Lib.hid (contains_rd notNum inp v w h rd_says)
  have HB0 := Lib.hid (Bel.rfl_ w)
  obtain ⟨A, c, rfl, hll⟩ := sl_lit h
  clear h
  have HT : Hid (readyE inp fuel = if inp.length > 50 then 2 else if inp.any notNum = true ∨ fuel < 0 ∨ fuel > 500 then 3 else 0) := Lib.hid rfl
  generalize readyE inp fuel = T at *
  generalize inp.any notNum = X at *
  by_cases h5 : inp.length > 50
  · have d5 : decide ((inp.length : Int) > 50) = true := decide_eq_true (by omega)
    have HR : Hid (T = 2) := Lib.hid (by rw [HT.out, if_pos h5])
    go_enter Try.func46, Try.ntmps46
    go_wp2
    go_ret
    exact ⟨by rw [HR.out]; rfl, HB0.out⟩
  have d5 : decide ((inp.length : Int) > 50) = false := decide_eq_false (by omega)
  have HT2 : Hid (T = if X = true ∨ fuel < 0 ∨ fuel > 500 then 3 else 0) := Lib.hid (by rw [HT.out, if_neg h5])
  clear HT h5
  cases X with
  | true =>
    have HR : Hid (T = 3) := Lib.hid (by rw [HT2.out, if_pos (Or.inl rfl)])
    clear HT2
    go_enter Try.func46, Try.ntmps46
    go_wp2_with fail
    refine HC.out.mono ?_
    rintro r w1 ⟨rfl, hb⟩
    have HB := Lib.hid hb
    clear hb
    go_wp2
    go_ret
    exact ⟨by rw [HR.out]; rfl, HB.out⟩
  | false =>
    by_cases h1 : fuel < 0
    · have d1 : decide (fuel < 0) = true := decide_eq_true h1
      have HR : Hid (T = 3) := Lib.hid (by rw [HT2.out, if_pos (Or.inr (Or.inl h1))])
      clear HT2 h1
      go_enter Try.func46, Try.ntmps46
      go_wp2_with fail
      refine HC.out.mono ?_
      rintro r w1 ⟨rfl, hb⟩
      have HB := Lib.hid hb
      clear hb
      go_wp2
      go_ret
      exact ⟨by rw [HR.out]; rfl, HB.out⟩
    have d1 : decide (fuel < 0) = false := decide_eq_false h1
    by_cases h2 : fuel > 500
    · have d2 : decide (fuel > 500) = true := decide_eq_true h2
      have HR : Hid (T = 3) := Lib.hid (by rw [HT2.out, if_pos (Or.inr (Or.inr h2))])
      clear HT2 h1 h2
      go_enter Try.func46, Try.ntmps46
      go_wp2_with fail
      refine HC.out.mono ?_
      rintro r w1 ⟨rfl, hb⟩
      have HB := Lib.hid hb
      clear hb
      go_wp2
      go_ret
      exact ⟨by rw [HR.out]; rfl, HB.out⟩
    have d2 : decide (fuel > 500) = false := decide_eq_false h2
    have HR : Hid (T = 0) := Lib.hid (by rw [HT2.out, if_neg (by rintro (h | h | h); exact absurd h (by decide); exact h1 h; exact h2 h)])
    clear HT2 h1 h2
    go_enter Try.func46, Try.ntmps46
    go_wp2_with fail
    refine HC.out.mono ?_
    rintro r w1 ⟨rfl, hb⟩
    have HB := Lib.hid hb
    clear hb
    go_wp2
    go_ret
    exact ⟨by rw [HR.out]; rfl, HB.out⟩
end Go.Proofs.Ytgkpplbomciehaa
