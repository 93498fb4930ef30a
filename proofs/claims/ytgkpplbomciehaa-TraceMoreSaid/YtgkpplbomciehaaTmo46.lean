/- TraceMore: walked. Each lemma states its own conditions. -/
import Derived.Test.YtgkpplbomciehaaTmo45
namespace Go.Proofs.Ytgkpplbomciehaa
open Go.RowKit
section
variable {P : Program} {md : Region.Mode} {ops : Array Oper} {Q : Exit → Act → World → Prop} {S : World → Prop} {fuel : Nat} {listed : Array Bool} {a : Act} {w : World} {i : Nat}
/-- an operation comes up, yields a value and leaves a world -/
theorem st_to (d : Option Tmp) {o : Oper} (hi : ops[i]? = some o) (hd : o.dst = d) (hw : Region.wanted o (yielded ops a.tmps) = true) (v : Value) (w' : World) (hrun : (execOp a.eval o).run P w = .ok (.value v) w')
    (hS : S w') (h : wpAnyH P md ops Q S fuel (listed.setIfInBounds i true) (a.put d v) w') : StepAt P md ops Q S fuel listed a w i :=
  wpOp_step hi fun _ hK => by
    subst hd
    rw [if_pos hw]
    unfold Oper.wp
    rw [hrun, Oper.upon_value]
    exact hK _ _ ⟨hS, h⟩
/-- an append of a slice -/
theorem st_appAll (d : Option Tmp) {o : Oper} (hi : ops[i]? = some o) (hd : o.dst = d) (hg : o.guard = none) (s x : Operand) (t : TypeId)
    (ho : o.op = .call { callee := .builtin .append, args := #[s, x], argTypes := #[t, t] }) (base : Nat) {e : TypeId} {size bytes : Nat} (E : Elem P t e size bytes)
    (v : Value) (n : Nat) (xs : List Value) (hs : a.eval s = v) (hown : w.ownsRow base e size v n xs) (A : Option Addr) (m c : Nat) (news : List Value) (hx : a.eval x = .slice A m c)
    (hl : news.length = m * size) (hN : A = none → c = 0) (hc : 0 < m → ∃ b off, A = some ⟨b, off, none⟩ ∧ CellsAt w b off news) (h1 : ∀ u ∈ news, u.oneCell' = true)
    (h63 : n + m ≤ maxLen) (hbytes : (n + m) * bytes ≤ 140737488355328) (hbase : base ≤ w.heap.size)
    (h : ∀ v' w', w'.ownsRow base e size v' (n + m) (xs ++ news) → w.grownBy w' v.ownBlock → S w' ∧ wpAnyH P md ops Q S fuel (listed.setIfInBounds i true) (a.put d v') w') : StepAt P md ops Q S fuel listed a w i :=
  wpOp_step hi fun _ hK => by
    subst hd
    have hw : Region.wanted o (yielded ops a.tmps) = true := by simp [Region.wanted, hg]
    rw [if_pos hw]
    exact wp_appAll w s x t ho base E v n xs hs hown A m c news hx hl hN hc h1 h63 hbytes hbase fun v' w' h2 h3 _ => hK _ _ (h v' w' h2 h3)
end
theorem evC_len (l : List Ev) : (evC l).length = l.length * 6 := by
  induction l with
  | nil => rfl
  | cons e l ih => unfold evC at *; rw [List.flatMap_cons, List.length_append, ih, List.length_cons]; simp [Ev.cells]; omega
theorem evC_one (l : List Ev) : ∀ u ∈ evC l, u.oneCell' = true := by
  intro u hu
  obtain ⟨e, -, he⟩ := List.mem_flatMap.1 hu
  exact ev_one e u he
theorem flatMap_get {α : Type} {enc : α → List Value} {s : Nat} (hs : ∀ x, (enc x).length = s) : ∀ (xs : List α) (k : Nat) (x : α) (j : Nat), xs[k]? = some x → j < s → (xs.flatMap enc)[k * s + j]? = (enc x)[j]?
  | [], k, x, j, h, _ => by simp at h
  | y :: ys, 0, x, j, h, hj => by
    simp only [List.getElem?_cons_zero, Option.some.injEq] at h
    subst h
    rw [List.flatMap_cons, Nat.zero_mul, Nat.zero_add, List.getElem?_append_left (by rw [hs]; exact hj)]
  | y :: ys, k + 1, x, j, h, hj => by
    simp only [List.getElem?_cons_succ] at h
    rw [List.flatMap_cons, List.getElem?_append_right (by rw [hs, Nat.add_mul, Nat.one_mul]; omega), hs, show (k + 1) * s + j - s = k * s + j by rw [Nat.add_mul, Nat.one_mul]; omega]
    exact flatMap_get hs ys k x j h hj
theorem evC_app (a b : List Ev) : evC (a ++ b) = evC a ++ evC b := by unfold evC; rw [List.flatMap_append]
section
variable {o : Oper} {ρ : Operand → Value} {W : World} {x y : Operand} {b n c : Nat} {j : Int}
theorem rs_upto (ho : o.op = .slice 27 x none (some y) none) (hx : ρ x = .slice (some ⟨b, 0, none⟩) n c) (hy : ρ y = .int .i64 j) (h0 : 0 ≤ j) (h1 : j ≤ c) (hc : 0 < c) : (execOp ρ o).run Try.prog W = .ok (.value (.slice (some ⟨b, 0, none⟩) j.toNat c)) W := by
  have hc0 : ¬ c = 0 := by omega
  simp [execOp, ho, hx, hy, go_sem, h0, h1, hc0]
end
theorem bel_app {w0 W W' : World} {base size n : Nat} {e : TypeId} {v : Value} {xs : List Value} (h : Bel w0 W) (ho : W.ownsRow base e size v n xs) (hg : W.grownBy W' v.ownBlock) (hb : w0.heap.size ≤ base) : Bel w0 W' := Below.grown h hg h.size (fun k hk => by have := (ho.lt k hk).1; omega)
theorem Sl.upto {w : World} {g c : Nat} {l : List Ev} (h : Sl evR w (.slice (some ⟨g, 0, none⟩) l.length c) l) {N : Nat} (hN : N ≤ l.length) : Sl evR w (.slice (some ⟨g, 0, none⟩) N c) (l.take N) := by
  obtain ⟨A, c', he, h2, h3, h4⟩ := h
  injection he with e1 _ e3
  subst e1 e3
  have h5 := Sl.cut (r := evR) (w := w) (A := some ⟨g, 0, none⟩) (A' := some ⟨g, 0, none⟩) (C' := c) (i := 0) (j := N) h2 h3 h4 hN (by split <;> simp [Addr.add]) rfl
  rwa [List.drop_zero, Nat.sub_zero] at h5
/-- where the cells of a slice lie -/
theorem Sl.cellsEv {w : World} {A : Option Addr} {n c : Nat} {l : List Ev} (h : Sl evR w (.slice A n c) l) : 0 < n → ∃ b off, A = some ⟨b, off, none⟩ ∧ CellsAt w b off (evC l) := by
  intro hn
  obtain ⟨A', c', he, h1, h2, h3⟩ := h
  injection he with e1 e2 e3
  subst e1 e2 e3
  obtain ⟨b, o, rfl, h4⟩ := h3 hn
  refine ⟨b, o, rfl, fun j u hu => ?_⟩
  have hj : j < l.length * 6 := by
    have := (List.getElem?_eq_some_iff.1 hu).1
    rwa [evC_len] at this
  have hk : j / 6 < l.length := by omega
  obtain ⟨cs, h5, h6⟩ := h4 (j / 6) l[j / 6] (List.getElem?_eq_getElem hk)
  have h5' : cs = l[j / 6].cells := h5
  subst h5'
  have h7 := flatMap_get (enc := Ev.cells) (s := 6) (fun _ => rfl) l (j / 6) _ (j % 6) (List.getElem?_eq_getElem hk) (Nat.mod_lt _ (by decide))
  have e : j / 6 * 6 + j % 6 = j := by omega
  rw [e] at h7
  have h8 := h6 (j % 6) u (by rw [← h7]; exact hu)
  have h9 : o + j / 6 * evR.size + j % 6 = o + j := by simp only [evR]; omega
  rwa [h9] at h8
set_option maxRecDepth 20000 in
set_option maxHeartbeats 4000000 in
theorem more_any (ps : List PF) (inp : List Int) (fuel more cut : Int) (vp vi : Value) (w : World) (h : Sl pfR w vp ps) (hi : Sl intR w vi inp) :
    Calls Try.prog 8 #[.agg #[vp], vi, .int .i64 fuel, .int .i64 more, .int .i64 cut] w fun r w' => r = .returned (.bool true) ∧ Bel w w' := by
  have HSL := Lib.hid h
  have HIN := Lib.hid hi
  obtain ⟨A, c, rfl, -⟩ := sl_lit h
  obtain ⟨Ai, ci, rfl, -⟩ := sl_lit hi
  have HB1 : Hid (Bel w (w.alloc (.cells #[.slice A ps.length c] PGT))) := Lib.hid ((Bel.rfl_ w).al _)
  have HP1 := Lib.hid (Blk.new w PGT #[.slice A ps.length c])
  have c0 := HP1.out.cell (i := 0) rfl
  have HRUN := Lib.hid (fun W f (hb : Bel w W) => run_any ps inp f _ _ W (HSL.out.keep hb) (HIN.out.keep hb))
  have HRT := Lib.hid (fun W l vl (hb : Bel w W) (hl : Sl evR W vl l) => right_any ps l _ vl W (HSL.out.keep hb) hl)
  clear h hi
  go_enter Try.func8, Try.ntmps8
  go_wp2_with fail
  generalize hW1 : w.alloc (.cells #[.slice A ps.length c] PGT) = W1 at *
  clear hW1
  generalize hQ : w.heap.size = Q at *
  clear hQ
  refine (HRUN.out _ fuel HB1.out).mono ?_
  rintro r w2 ⟨b2, hr⟩
  have HB2 := Lib.hid (HB1.out.tr b2)
  have HP2 := Lib.hid (HP1.out.keep b2)
  have c2 := HP2.out.cell (i := 0) rfl
  clear c0
  rcases hr with ⟨hne, rfl⟩ | ⟨h0, u, out, rfl, hran, hown⟩
  · clear b2
    have d0 : (runE ps inp fuel != 0) = true := by simpa using hne
    clear hne
    generalize runE ps inp fuel = RE at *
    go_wp2_with fail
    refine (HRUN.out _ more HB2.out).mono ?_
    rintro r w3 ⟨b3, hr⟩
    have HB3 := Lib.hid (HB2.out.tr b3)
    clear b3 c2
    rcases hr with ⟨-, rfl⟩ | ⟨-, u, out, rfl, -, -⟩
    · go_wp2_with fail
      refine (traceBegun_any _).mono ?_
      rintro r w4 ⟨rfl, b4⟩
      have HB4 := Lib.hid (HB3.out.tr b4)
      clear b4
      go_wp2
      go_ret
      exact ⟨rfl, HB4.out⟩
    · go_wp2_with fail
      refine (traceBegun_any _).mono ?_
      rintro r w4 ⟨rfl, b4⟩
      have HB4 := Lib.hid (HB3.out.tr b4)
      clear b4
      go_wp2
      go_ret
      exact ⟨rfl, HB4.out⟩
  have hok := h0
  unfold runE at hok
  have hep : errP ps = 0 := by
    by_cases hh : errP ps = 0
    · exact hh
    · rw [if_pos hh] at hok; exact absurd hok hh
  rw [if_neg (by rw [hep]; decide)] at hok
  obtain ⟨hi50, hnum, hf0, hf5⟩ := readyE_ok hok
  have hpr := errP_ok hep
  have hlen := hran.len hpr hnum hf0
  have HEP := Lib.hid hep
  have HREP := Lib.hid (fun (l : List Ev) (hl : l.length ≤ 4000) => show rightE ps l = 0 by unfold rightE; rw [if_neg (by rw [HEP.out]; decide), if_neg (by omega)])
  have HRIGHT := Lib.hid (fun N (hN : N ≤ out.length) => hran.right hpr hnum hi50 hf0 hf5 hN)
  have HWRONG := Lib.hid (fun s => hran.wrong hf0 s)
  have HMORE := Lib.hid (fun (m : List Ev) (hfm : fuel ≤ more) (hm : Ran ps inp more m) => hran.more hf0 hfm hm)
  have HLEN : Hid (out.length ≤ 3600) := Lib.hid (by omega)
  obtain ⟨l0, e7, hout, h7, -, -⟩ := hran.last hf0
  have HOUT := Lib.hid hout
  obtain ⟨g, cap, rfl, -, hcap, hcm, -⟩ := own_lies hown (by rw [hout]; simp)
  have HOWN := Lib.hid hown
  have HBT := Lib.hid b2
  have HMLEN := Lib.hid (fun (m : List Ev) (f : Int) (hz : runE ps inp f = 0) (hm : Ran ps inp f m) => (by
    unfold runE at hz
    rw [if_neg (by rw [hep]; decide)] at hz
    obtain ⟨-, -, q1, q2⟩ := readyE_ok hz
    have := hm.len hpr hnum q1
    obtain ⟨l, e, rfl, -⟩ := hm.last q1
    exact ⟨by omega, by simp⟩ : m.length ≤ 3600 ∧ 0 < m.length))
  have hpos : 0 < out.length := by rw [hout]; simp
  clear hok hi50 hnum hf5 hpr hlen hran hown hep h0 b2 hout hpos
  go_wp2_with fail
  refine (HRUN.out _ more HB2.out).mono ?_
  rintro r w3 ⟨b3, hr⟩
  have HB3 := Lib.hid (HB2.out.tr b3)
  have HP3 := Lib.hid (HP2.out.keep b3)
  have HOWN3 := Lib.hid (b3.own HOWN.out)
  have HHR := Lib.hid hr
  clear b3 c2 HOWN hr
  -- how the second one ended
  obtain ⟨um, me, rfl, HM⟩ : ∃ um me, r = .returned (.tuple #[um, .int .i64 me]) ∧ Hid (me ≠ 0 ∨ (me = 0 ∧ ∃ m gm c, Ran ps inp more m ∧ m.length ≤ 3600 ∧ um = .slice (some ⟨gm, 0, none⟩) m.length c ∧ (m.length ≤ c ∧ 0 < c) ∧ Sl evR w3 um m)) := by
    rcases HHR.out with ⟨hne, rfl⟩ | ⟨hz, u, m, rfl, hm, ho⟩
    · exact ⟨_, _, rfl, Lib.hid (Or.inl hne)⟩
    · obtain ⟨gm, c, rfl, -, hcc, -⟩ := own_lies ho (HMLEN.out m more hz hm).2
      exact ⟨_, _, rfl, Lib.hid (Or.inr ⟨rfl, m, gm, c, hm, (HMLEN.out m more hz hm).1, rfl, ⟨hcc, by have := (HMLEN.out m more hz hm).2; omega⟩, Sl.own_ev ho rfl⟩)⟩
  clear HHR HMLEN
  go_wp2_with fail
  refine (traceBegun_any _).mono ?_
  rintro r w4 ⟨rfl, b4⟩
  have HB4 := Lib.hid (HB3.out.tr b4)
  have HP4 := Lib.hid (HP3.out.keep b4)
  have HOWN4 := Lib.hid (b4.own HOWN3.out)
  have HB34 := Lib.hid b4
  clear b4 HB3 HP3 HOWN3
  have hn : out.length = l0.length + 1 := by rw [HOUT.out]; simp
  have he := (Sl.event (Sl.own_ev HOWN4.out rfl) (k := l0.length) (e := e7) (by rw [HOUT.out]; simp))
  obtain ⟨bb, oo, hbo, hce⟩ := he
  injection hbo with hbo
  injection hbo with hb1 hb2
  subst hb1 hb2
  have f0 := hce 0 (.int .i64 e7.kind) rfl
  have f5 := hce 5 (.int .i64 e7.value) rfl
  rw [h7] at f0
  simp only [Nat.zero_add, Nat.add_zero] at f0 f5
  have HLE := Lib.hid HLEN.out
  obtain ⟨N, hN⟩ : ∃ N, N = l0.length := ⟨_, rfl⟩
  rw [← hN] at hn f0 f5
  have hcap' : N + 1 ≤ cap := by omega
  have hN4 : N + 1 ≤ 3600 := by have := HLEN.out; omega
  have HN := Lib.hid hN
  have HLN := Lib.hid hn
  clear hce hN h7 HLE hcap
  have dz : ((N : Int) + 1 == 0) = false := by rw [beq_eq_false_iff_ne]; omega
  rw [hn]
  by_cases q0 : 0 ≤ cut
  rotate_left
  · skip
    have d0 : decide (cut ≥ 0) = false := decide_eq_false q0
    have HBM := HB34
    have HBX : Hid (Bel w4 w4) := Lib.hid (Bel.rfl_ w4)
    have HB5 := Lib.hid (HB4.out.tr HBX.out)
    have HP5 := Lib.hid (HP4.out.keep HBX.out)
    have HOWN5 := Lib.hid (HBX.out.own HOWN4.out)
    replace f0 := HBX.out.cell f0
    replace f5 := HBX.out.cell f5
    have HSRC := Lib.hid (fun W (hb : Bel w4 W) (hp : 0 < N + 1) => Sl.cellsEv (n := N + 1) (by have := (Sl.own_ev HOWN5.out rfl).keep hb; rwa [HLN.out] at this) hp)
    skip
    clear HB4 HP4 HOWN4
    go_upto_region 13 with fail
    go_cut [17, 18] from 76 to 86 (fun x y wx => x = .bool false ∧ y = .int .i64 0 ∧ Hid (Bel w4 wx))
    case first =>
      refine wp_region_held_drew (S := fun W => Bel w4 W) (by kernel_rfl) ((Bel.rfl_ w4).dr) (fun hS => ?_)
      refine rt_take (i := 0) (some 77) (.agg #[.slice A ps.length c]) rfl rfl (by kernel_rfl) (by kernel_rfl) (by kernel_rfl) (fun _ _ _ h => h) (by kernel_rfl) hS (fun W hb => rl_pg rfl (by kernel_rfl) ((HP5.out.keep hb).cell (i := 0) rfl)) ?_
      refine rt_take (i := 2) (some 79) (.slice (some ⟨g, 0, none⟩) (N + 1) cap) rfl rfl (by kernel_rfl) (by kernel_rfl) (by kernel_rfl) (fun _ _ _ h => h) (by kernel_rfl) hS (fun W _ => by kernel_rfl) ?_
      refine rt_take (i := 4) (some 81) (.agg #[.int .i64 1, .int .i64 0, .int .i64 0, .int .i64 0, .int .i64 0, .int .i64 0]) rfl rfl (by kernel_rfl) (by kernel_rfl) (by kernel_rfl) (fun _ _ _ h => h) (by kernel_rfl) hS (fun W _ => by kernel_rfl) ?_
      have hLO : w4.heap.size ≤ w4.drew.heap.size := hS.size
      generalize hw4d : w4.drew = WD at *
      clear hw4d
      refine st_two (i := 1) (j := 5) (by kernel_rfl) ?_ ?_
      · skip
        refine st_to (i := 1) (some 78) rfl rfl (by kernel_rfl) (.slice (some ⟨WD.heap.size, 0, none⟩) 0 0) (WD.alloc (.cells #[] EVT)) (by kernel_rfl) (hS.al _) ?_
        have hE := World.ownsRow_made (base := WD.heap.size) (e := EVT) (size := 6) WD #[] 0 (Nat.le_refl _) (Nat.zero_le _) rfl
        replace hS := hS.al (.cells #[] EVT)
        refine st_two (i := 3) (j := 5) (by kernel_rfl) ?_ ?_
        · skip
          refine st_appAll (i := 3) (some 80) rfl rfl rfl (.tmp 78) (.tmp 79) 27 rfl _ elEV (.slice (some ⟨WD.heap.size, 0, none⟩) 0 0) 0 [] (by kernel_rfl) hE (some ⟨g, 0, none⟩) (N + 1) cap (evC out) (by kernel_rfl) (by rw [evC_len, HLN.out]) (fun h => by cases h) (fun hp => HSRC.out _ hS hp) (evC_one _) (by simp only [maxLen]; omega) (by omega) (by simp only [alloc_size]; omega) ?_
          intro v80 W80 ho80 hg80
          obtain ⟨g80, cap80, rfl, hlo80, -⟩ := own_lies ho80 (by omega)
          have hS80 := bel_app hS hE hg80 (by first | exact hLO2 | omega)
          refine ⟨hS80, ?_⟩
          replace hS := hS80
          refine st_one (i := 5) (by kernel_rfl) ?_
          refine st_to (i := 5) (some 82) rfl rfl (by kernel_rfl) (.slice (some ⟨W80.heap.size, 0, none⟩) 1 1) (W80.alloc (.cells #[.int .i64 1, .int .i64 0, .int .i64 0, .int .i64 0, .int .i64 0, .int .i64 0] EVT)) (by kernel_rfl) (hS.al _) ?_
          have hK := Blk.new W80 EVT #[.int .i64 1, .int .i64 0, .int .i64 0, .int .i64 0, .int .i64 0, .int .i64 0]
          have hSZ : W80.heap.size < (W80.alloc (.cells #[.int .i64 1, .int .i64 0, .int .i64 0, .int .i64 0, .int .i64 0, .int .i64 0] EVT)).heap.size := by simp only [alloc_size]; omega
          replace hS := hS.al (.cells #[.int .i64 1, .int .i64 0, .int .i64 0, .int .i64 0, .int .i64 0, .int .i64 0] EVT)
          have ho6 := ((Bel.rfl_ W80).al (.cells #[.int .i64 1, .int .i64 0, .int .i64 0, .int .i64 0, .int .i64 0, .int .i64 0] EVT)).own ho80
          have hK6 := hK
          have hLO6 : WD.heap.size ≤ (W80.alloc (.cells #[.int .i64 1, .int .i64 0, .int .i64 0, .int .i64 0, .int .i64 0, .int .i64 0] EVT)).heap.size := by have := hg80.size; simp only [alloc_size] at this ⊢; omega
          have hLO7 : w4.heap.size ≤ WD.heap.size := hLO
          refine st_one (i := 6) (by kernel_rfl) ?_
          refine st_appAll (i := 6) (some 83) rfl rfl rfl (.tmp 80) (.tmp 82) 27 rfl _ elEV (.slice (some ⟨g80, 0, none⟩) (0 + (N + 1)) cap80) (0 + (N + 1)) ([] ++ evC out) (by kernel_rfl) ho6 (some ⟨W80.heap.size, 0, none⟩) 1 1 [.int .i64 1, .int .i64 0, .int .i64 0, .int .i64 0, .int .i64 0, .int .i64 0] (by kernel_rfl) rfl (fun h => by cases h) (fun _ => ⟨_, 0, rfl, fun j u hu => by rw [Nat.zero_add]; exact hK6.cell (by simpa using hu)⟩) (by simp [Value.oneCell']) (by simp only [maxLen]; omega) (by omega) hLO6 ?_
          intro v83 W83 ho83 hg83
          have hS83 := bel_app hS ho6 hg83 hLO7
          refine ⟨hS83, ?_⟩
          obtain ⟨A83, c83, rfl, -⟩ := own_lit ho83
          have hsl : Sl evR W83 (.slice A83 (0 + (N + 1) + 1) c83) (out ++ [⟨1, 0, 0, 0, 0, 0⟩]) := by
            have h1 := ho83
            rw [List.nil_append, show evC out ++ [.int .i64 1, .int .i64 0, .int .i64 0, .int .i64 0, .int .i64 0, .int .i64 0] = evC (out ++ [⟨1, 0, 0, 0, 0, 0⟩]) by rw [evC_app]; rfl] at h1
            exact Sl.own_ev h1 (by rw [List.length_append, HLN.out]; simp)
          have hS := hS83
          refine rt_call (i := 7) (some 84) (by kernel_rfl) rfl rfl (by kernel_rfl) 31 #[.agg #[.slice A ps.length c], .slice A83 (0 + (N + 1) + 1) c83] (by kernel_rfl) (HRT.out _ (out ++ [⟨1, 0, 0, 0, 0, 0⟩]) _ (HB5.out.tr hS) hsl) ?_
          rintro x1 W9 ⟨hb, ⟨hne, -⟩ | ⟨-, ok, rfl, hok⟩⟩
          · exact absurd (HREP.out _ (by rw [List.length_append, HLN.out, List.length_singleton]; omega)) hne
          obtain rfl : ok = false := by
            cases ok with
            | false => rfl
            | true => exact absurd (hok.1 rfl) (HWRONG.out _)
          refine ⟨_, rfl, hS.tr hb, fun hS => ?_⟩
          refine rt_take (i := 8) (some 76) (.tuple #[.bool false, .int .i64 0]) rfl rfl (by kernel_rfl) (by kernel_rfl) (by kernel_rfl) (fun _ _ _ h => h) (by kernel_rfl) hS (fun W _ => by kernel_rfl) ?_
          refine rt_take (i := 9) (some 85) (.bool false) rfl rfl (by kernel_rfl) (by kernel_rfl) (by kernel_rfl) (fun _ _ _ h => h) (by kernel_rfl) hS (fun W _ => by kernel_rfl) ?_
          refine rt_take (i := 10) (some 86) (.int .i64 0) rfl rfl (by kernel_rfl) (by kernel_rfl) (by kernel_rfl) (fun _ _ _ h => h) (by kernel_rfl) hS (fun W _ => by kernel_rfl) ?_
          refine rt_take (i := 11) (some 17) (.bool false) rfl rfl (by kernel_rfl) (by kernel_rfl) (by kernel_rfl) (fun _ _ _ h => h) (by kernel_rfl) hS (fun W _ => by kernel_rfl) ?_
          refine rt_take (i := 12) (some 18) (.int .i64 0) rfl rfl (by kernel_rfl) (by kernel_rfl) (by kernel_rfl) (fun _ _ _ h => h) (by kernel_rfl) hS (fun W _ => by kernel_rfl) ?_
          refine wpAnyH_done (by kernel_rfl) ?_ _
          try simp only [Act.put, List.setIfInBounds_toArray, List.set_cons_zero, List.set_cons_succ]
          have HBZ := Lib.hid hS
          clear hS
          try go_wp2
          go_meet
          exact ⟨rfl, rfl, HBZ⟩
        · skip
          refine st_to (i := 5) (some 82) rfl rfl (by kernel_rfl) (.slice (some ⟨(WD.alloc (.cells #[] EVT)).heap.size, 0, none⟩) 1 1) ((WD.alloc (.cells #[] EVT)).alloc (.cells #[.int .i64 1, .int .i64 0, .int .i64 0, .int .i64 0, .int .i64 0, .int .i64 0] EVT)) (by kernel_rfl) (hS.al _) ?_
          have hK := Blk.new (WD.alloc (.cells #[] EVT)) EVT #[.int .i64 1, .int .i64 0, .int .i64 0, .int .i64 0, .int .i64 0, .int .i64 0]
          have hSZ : (WD.alloc (.cells #[] EVT)).heap.size < ((WD.alloc (.cells #[] EVT)).alloc (.cells #[.int .i64 1, .int .i64 0, .int .i64 0, .int .i64 0, .int .i64 0, .int .i64 0] EVT)).heap.size := by simp only [alloc_size]; omega
          replace hS := hS.al (.cells #[.int .i64 1, .int .i64 0, .int .i64 0, .int .i64 0, .int .i64 0, .int .i64 0] EVT)
          replace hE := ((Bel.rfl_ _).al (.cells #[.int .i64 1, .int .i64 0, .int .i64 0, .int .i64 0, .int .i64 0, .int .i64 0] EVT)).own hE
          refine st_one (i := 3) (by kernel_rfl) ?_
          refine st_appAll (i := 3) (some 80) rfl rfl rfl (.tmp 78) (.tmp 79) 27 rfl _ elEV (.slice (some ⟨WD.heap.size, 0, none⟩) 0 0) 0 [] (by kernel_rfl) hE (some ⟨g, 0, none⟩) (N + 1) cap (evC out) (by kernel_rfl) (by rw [evC_len, HLN.out]) (fun h => by cases h) (fun hp => HSRC.out _ hS hp) (evC_one _) (by simp only [maxLen]; omega) (by omega) (by simp only [alloc_size]; omega) ?_
          intro v80 W80 ho80 hg80
          obtain ⟨g80, cap80, rfl, hlo80, -⟩ := own_lies ho80 (by omega)
          have hS80 := bel_app hS hE hg80 (by first | exact hLO2 | omega)
          refine ⟨hS80, ?_⟩
          have ho6 := ho80
          have hK6 : Blk W80 (WD.alloc (.cells #[] EVT)).heap.size EVT #[.int .i64 1, .int .i64 0, .int .i64 0, .int .i64 0, .int .i64 0, .int .i64 0] := (hg80.block _ hSZ (by simp [Value.ownBlock])).trans hK
          replace hS := hS80
          have hLO6 : WD.heap.size ≤ W80.heap.size := by have := hg80.size; simp only [alloc_size] at this ⊢; omega
          have hLO7 : w4.heap.size ≤ WD.heap.size := hLO
          refine st_one (i := 6) (by kernel_rfl) ?_
          refine st_appAll (i := 6) (some 83) rfl rfl rfl (.tmp 80) (.tmp 82) 27 rfl _ elEV (.slice (some ⟨g80, 0, none⟩) (0 + (N + 1)) cap80) (0 + (N + 1)) ([] ++ evC out) (by kernel_rfl) ho6 (some ⟨(WD.alloc (.cells #[] EVT)).heap.size, 0, none⟩) 1 1 [.int .i64 1, .int .i64 0, .int .i64 0, .int .i64 0, .int .i64 0, .int .i64 0] (by kernel_rfl) rfl (fun h => by cases h) (fun _ => ⟨_, 0, rfl, fun j u hu => by rw [Nat.zero_add]; exact hK6.cell (by simpa using hu)⟩) (by simp [Value.oneCell']) (by simp only [maxLen]; omega) (by omega) hLO6 ?_
          intro v83 W83 ho83 hg83
          have hS83 := bel_app hS ho6 hg83 hLO7
          refine ⟨hS83, ?_⟩
          obtain ⟨A83, c83, rfl, -⟩ := own_lit ho83
          have hsl : Sl evR W83 (.slice A83 (0 + (N + 1) + 1) c83) (out ++ [⟨1, 0, 0, 0, 0, 0⟩]) := by
            have h1 := ho83
            rw [List.nil_append, show evC out ++ [.int .i64 1, .int .i64 0, .int .i64 0, .int .i64 0, .int .i64 0, .int .i64 0] = evC (out ++ [⟨1, 0, 0, 0, 0, 0⟩]) by rw [evC_app]; rfl] at h1
            exact Sl.own_ev h1 (by rw [List.length_append, HLN.out]; simp)
          have hS := hS83
          refine rt_call (i := 7) (some 84) (by kernel_rfl) rfl rfl (by kernel_rfl) 31 #[.agg #[.slice A ps.length c], .slice A83 (0 + (N + 1) + 1) c83] (by kernel_rfl) (HRT.out _ (out ++ [⟨1, 0, 0, 0, 0, 0⟩]) _ (HB5.out.tr hS) hsl) ?_
          rintro x1 W9 ⟨hb, ⟨hne, -⟩ | ⟨-, ok, rfl, hok⟩⟩
          · exact absurd (HREP.out _ (by rw [List.length_append, HLN.out, List.length_singleton]; omega)) hne
          obtain rfl : ok = false := by
            cases ok with
            | false => rfl
            | true => exact absurd (hok.1 rfl) (HWRONG.out _)
          refine ⟨_, rfl, hS.tr hb, fun hS => ?_⟩
          refine rt_take (i := 8) (some 76) (.tuple #[.bool false, .int .i64 0]) rfl rfl (by kernel_rfl) (by kernel_rfl) (by kernel_rfl) (fun _ _ _ h => h) (by kernel_rfl) hS (fun W _ => by kernel_rfl) ?_
          refine rt_take (i := 9) (some 85) (.bool false) rfl rfl (by kernel_rfl) (by kernel_rfl) (by kernel_rfl) (fun _ _ _ h => h) (by kernel_rfl) hS (fun W _ => by kernel_rfl) ?_
          refine rt_take (i := 10) (some 86) (.int .i64 0) rfl rfl (by kernel_rfl) (by kernel_rfl) (by kernel_rfl) (fun _ _ _ h => h) (by kernel_rfl) hS (fun W _ => by kernel_rfl) ?_
          refine rt_take (i := 11) (some 17) (.bool false) rfl rfl (by kernel_rfl) (by kernel_rfl) (by kernel_rfl) (fun _ _ _ h => h) (by kernel_rfl) hS (fun W _ => by kernel_rfl) ?_
          refine rt_take (i := 12) (some 18) (.int .i64 0) rfl rfl (by kernel_rfl) (by kernel_rfl) (by kernel_rfl) (fun _ _ _ h => h) (by kernel_rfl) hS (fun W _ => by kernel_rfl) ?_
          refine wpAnyH_done (by kernel_rfl) ?_ _
          try simp only [Act.put, List.setIfInBounds_toArray, List.set_cons_zero, List.set_cons_succ]
          have HBZ := Lib.hid hS
          clear hS
          try go_wp2
          go_meet
          exact ⟨rfl, rfl, HBZ⟩
      · skip
        refine st_to (i := 5) (some 82) rfl rfl (by kernel_rfl) (.slice (some ⟨WD.heap.size, 0, none⟩) 1 1) (WD.alloc (.cells #[.int .i64 1, .int .i64 0, .int .i64 0, .int .i64 0, .int .i64 0, .int .i64 0] EVT)) (by kernel_rfl) (hS.al _) ?_
        have hK := Blk.new WD EVT #[.int .i64 1, .int .i64 0, .int .i64 0, .int .i64 0, .int .i64 0, .int .i64 0]
        have hSZ : WD.heap.size < (WD.alloc (.cells #[.int .i64 1, .int .i64 0, .int .i64 0, .int .i64 0, .int .i64 0, .int .i64 0] EVT)).heap.size := by simp only [alloc_size]; omega
        replace hS := hS.al (.cells #[.int .i64 1, .int .i64 0, .int .i64 0, .int .i64 0, .int .i64 0, .int .i64 0] EVT)
        refine st_one (i := 1) (by kernel_rfl) ?_
        generalize hWE : WD.alloc (.cells #[.int .i64 1, .int .i64 0, .int .i64 0, .int .i64 0, .int .i64 0, .int .i64 0] EVT) = WE at *
        refine st_to (i := 1) (some 78) rfl rfl (by kernel_rfl) (.slice (some ⟨WE.heap.size, 0, none⟩) 0 0) (WE.alloc (.cells #[] EVT)) (by kernel_rfl) (hS.al _) ?_
        have hE := World.ownsRow_made (base := WE.heap.size) (e := EVT) (size := 6) WE #[] 0 (Nat.le_refl _) (Nat.zero_le _) rfl
        replace hS := hS.al (.cells #[] EVT)
        refine st_one (i := 3) (by kernel_rfl) ?_
        have hWL : WD.heap.size < WE.heap.size := hSZ
        have hKE := hK.keep ((Bel.rfl_ WE).al (.cells #[] EVT))
        refine st_appAll (i := 3) (some 80) rfl rfl rfl (.tmp 78) (.tmp 79) 27 rfl _ elEV (.slice (some ⟨WE.heap.size, 0, none⟩) 0 0) 0 [] (by kernel_rfl) hE (some ⟨g, 0, none⟩) (N + 1) cap (evC out) (by kernel_rfl) (by rw [evC_len, HLN.out]) (fun h => by cases h) (fun hp => HSRC.out _ hS hp) (evC_one _) (by simp only [maxLen]; omega) (by omega) (by simp only [alloc_size]; omega) ?_
        intro v80 W80 ho80 hg80
        obtain ⟨g80, cap80, rfl, hlo80, -⟩ := own_lies ho80 (by omega)
        have hS80 := bel_app hS hE hg80 (by first | exact hLO2 | omega)
        refine ⟨hS80, ?_⟩
        have ho6 := ho80
        have hK6 : Blk W80 WD.heap.size EVT #[.int .i64 1, .int .i64 0, .int .i64 0, .int .i64 0, .int .i64 0, .int .i64 0] := (hg80.block _ (by rw [alloc_size]; omega) (by simp [Value.ownBlock]; omega)).trans hKE
        replace hS := hS80
        have hLO6 : WE.heap.size ≤ W80.heap.size := by have := hg80.size; simp only [alloc_size] at this ⊢; omega
        have hLO7 : w4.heap.size ≤ WE.heap.size := by omega
        refine st_one (i := 6) (by kernel_rfl) ?_
        refine st_appAll (i := 6) (some 83) rfl rfl rfl (.tmp 80) (.tmp 82) 27 rfl _ elEV (.slice (some ⟨g80, 0, none⟩) (0 + (N + 1)) cap80) (0 + (N + 1)) ([] ++ evC out) (by kernel_rfl) ho6 (some ⟨WD.heap.size, 0, none⟩) 1 1 [.int .i64 1, .int .i64 0, .int .i64 0, .int .i64 0, .int .i64 0, .int .i64 0] (by kernel_rfl) rfl (fun h => by cases h) (fun _ => ⟨_, 0, rfl, fun j u hu => by rw [Nat.zero_add]; exact hK6.cell (by simpa using hu)⟩) (by simp [Value.oneCell']) (by simp only [maxLen]; omega) (by omega) hLO6 ?_
        intro v83 W83 ho83 hg83
        have hS83 := bel_app hS ho6 hg83 hLO7
        refine ⟨hS83, ?_⟩
        obtain ⟨A83, c83, rfl, -⟩ := own_lit ho83
        have hsl : Sl evR W83 (.slice A83 (0 + (N + 1) + 1) c83) (out ++ [⟨1, 0, 0, 0, 0, 0⟩]) := by
          have h1 := ho83
          rw [List.nil_append, show evC out ++ [.int .i64 1, .int .i64 0, .int .i64 0, .int .i64 0, .int .i64 0, .int .i64 0] = evC (out ++ [⟨1, 0, 0, 0, 0, 0⟩]) by rw [evC_app]; rfl] at h1
          exact Sl.own_ev h1 (by rw [List.length_append, HLN.out]; simp)
        have hS := hS83
        refine rt_call (i := 7) (some 84) (by kernel_rfl) rfl rfl (by kernel_rfl) 31 #[.agg #[.slice A ps.length c], .slice A83 (0 + (N + 1) + 1) c83] (by kernel_rfl) (HRT.out _ (out ++ [⟨1, 0, 0, 0, 0, 0⟩]) _ (HB5.out.tr hS) hsl) ?_
        rintro x1 W9 ⟨hb, ⟨hne, -⟩ | ⟨-, ok, rfl, hok⟩⟩
        · exact absurd (HREP.out _ (by rw [List.length_append, HLN.out, List.length_singleton]; omega)) hne
        obtain rfl : ok = false := by
          cases ok with
          | false => rfl
          | true => exact absurd (hok.1 rfl) (HWRONG.out _)
        refine ⟨_, rfl, hS.tr hb, fun hS => ?_⟩
        refine rt_take (i := 8) (some 76) (.tuple #[.bool false, .int .i64 0]) rfl rfl (by kernel_rfl) (by kernel_rfl) (by kernel_rfl) (fun _ _ _ h => h) (by kernel_rfl) hS (fun W _ => by kernel_rfl) ?_
        refine rt_take (i := 9) (some 85) (.bool false) rfl rfl (by kernel_rfl) (by kernel_rfl) (by kernel_rfl) (fun _ _ _ h => h) (by kernel_rfl) hS (fun W _ => by kernel_rfl) ?_
        refine rt_take (i := 10) (some 86) (.int .i64 0) rfl rfl (by kernel_rfl) (by kernel_rfl) (by kernel_rfl) (fun _ _ _ h => h) (by kernel_rfl) hS (fun W _ => by kernel_rfl) ?_
        refine rt_take (i := 11) (some 17) (.bool false) rfl rfl (by kernel_rfl) (by kernel_rfl) (by kernel_rfl) (fun _ _ _ h => h) (by kernel_rfl) hS (fun W _ => by kernel_rfl) ?_
        refine rt_take (i := 12) (some 18) (.int .i64 0) rfl rfl (by kernel_rfl) (by kernel_rfl) (by kernel_rfl) (fun _ _ _ h => h) (by kernel_rfl) hS (fun W _ => by kernel_rfl) ?_
        refine wpAnyH_done (by kernel_rfl) ?_ _
        try simp only [Act.put, List.setIfInBounds_toArray, List.set_cons_zero, List.set_cons_succ]
        have HBZ := Lib.hid hS
        clear hS
        try go_wp2
        go_meet
        exact ⟨rfl, rfl, HBZ⟩
    case rest =>
    obtain ⟨rfl, rfl, HB6⟩ := hcut
    replace f0 := HB6.out.cell f0
    replace f5 := HB6.out.cell f5
    have HOWN6 := Lib.hid (HB6.out.own HOWN5.out)
    have HB7 := Lib.hid (HB5.out.tr HB6.out)
    clear HOWN5 HP5 HB5 HSRC HRT HREP HRIGHT HWRONG HRUN HSL HIN HBT HB34
    rcases HM.out with hme | ⟨rfl, m, gm, cm, hm, hml, rfl, ⟨hmc, hmc0⟩, hsm⟩
    · have dm : (me != 0) = true := by simpa using hme
      clear hme
      go_wp2
      go_ret
      exact ⟨rfl, HB7.out⟩
    by_cases hfm : more < fuel
    · have dl : decide (more < fuel) = true := decide_eq_true hfm
      go_wp2
      go_ret
      exact ⟨rfl, HB7.out⟩
    have dl : decide (more < fuel) = false := decide_eq_false hfm
    obtain ⟨l1, e1, ho1, h71, hv1, hle1, htk1⟩ := HMORE.out m (by omega) hm
    obtain ⟨rfl, rfl⟩ : l0 = l1 ∧ e7 = e1 := by
      have := HOUT.out.symm.trans ho1
      exact ⟨(List.append_inj' this rfl).1, by simpa using (List.append_inj' this rfl).2⟩
    have HSM := Lib.hid (hsm.keep (HBM.out.tr HB6.out))
    have HTK := Lib.hid htk1
    have HV1 := Lib.hid hv1
    have HMM : Hid (m.length ≤ 3600) := Lib.hid hml
    clear hm hml hsm ho1 h71 hv1 htk1 HMORE HM hfm
    skip
    by_cases hv : e7.value = 1
    rotate_left
    · have dv : (e7.value != 1) = true := by simpa using hv
      have hom := HV1.out hv
      have HEQ := Lib.hid (sameEvents_any _ _ out m _ (Sl.own_ev HOWN6.out rfl) HSM.out (by unfold ok64; have := HLN.out; omega) (by unfold ok64; have := HMM.out; omega))
      rw [decide_eq_true hom, HLN.out] at HEQ
      clear hom hv hle1
      go_wp2_with fail
      refine HEQ.out.mono ?_
      rintro r w7 ⟨rfl, b7⟩
      have HB8 := Lib.hid (HB7.out.tr b7)
      clear b7
      go_wp2
      go_ret
      exact ⟨rfl, HB8.out⟩
    have dv : (e7.value != 1) = false := by rw [hv]; rfl
    have hNm : N ≤ m.length := by rw [HN.out]; exact hle1
    have dN : decide ((N : Int) ≤ m.length) = true := decide_eq_true (by omega)
    have HS1 : Hid (Sl evR wc (.slice (some ⟨g, 0, none⟩) N cap) (out.take N)) := Lib.hid (Sl.upto (by have := Sl.own_ev HOWN6.out rfl; exact this) (by have := HLN.out; omega))
    have HS2 : Hid (Sl evR wc (.slice (some ⟨gm, 0, none⟩) N cm) (m.take N)) := Lib.hid (Sl.upto HSM.out hNm)
    have HEQ := Lib.hid (fun W (hb : Bel wc W) => sameEvents_any _ _ (out.take N) (m.take N) W (HS1.out.keep hb) (HS2.out.keep hb) (by unfold ok64; rw [List.length_take]; omega) (by unfold ok64; rw [List.length_take]; omega))
    have hte : out.take N = m.take N := by
      rw [HN.out, ← HTK.out, HOUT.out, List.take_left' rfl]
    rw [decide_eq_true hte] at HEQ
    clear hte hv HS1 HS2 hle1
    go_upto_region 21 with fail
    refine wp_region_held_drew (S := fun W => Bel wc W) (by kernel_rfl) ((Bel.rfl_ wc).dr) (fun hS => ?_)
    refine rt_take (i := 0) (some 111) (.int .i64 N) rfl rfl (by kernel_rfl) (by kernel_rfl) (by kernel_rfl) (fun _ _ _ h => h) (by kernel_rfl) hS (fun W _ => by kernel_rfl) ?_
    refine rt_take (i := 1) (some 112) (.slice (some ⟨gm, 0, none⟩) m.length cm) rfl rfl (by kernel_rfl) (by kernel_rfl) (by kernel_rfl) (fun _ _ _ h => h) (by kernel_rfl) hS (fun W _ => by kernel_rfl) ?_
    refine rt_take (i := 2) (some 113) (.int .i64 m.length) rfl rfl (by kernel_rfl) (by kernel_rfl) (by kernel_rfl) (fun _ _ _ h => h) (by kernel_rfl) hS (fun W _ => by kernel_rfl) ?_
    refine rt_take (i := 3) (some 114) (.bool true) rfl rfl (by kernel_rfl) (by kernel_rfl) (by kernel_rfl) (fun _ _ _ h => h) (by kernel_rfl) hS (fun W _ => rb_leqI (k := N) (l := m.length) rfl (by kernel_rfl) (by kernel_rfl) dN) ?_
    refine rt_take (i := 4) (some 115) (.bool true) rfl rfl (by kernel_rfl) (by kernel_rfl) (by kernel_rfl) (fun _ _ _ h => h) (by kernel_rfl) hS (fun W _ => by kernel_rfl) ?_
    refine rt_take (i := 5) (some 116) (.slice (some ⟨g, 0, none⟩) (N + 1) cap) rfl rfl (by kernel_rfl) (by kernel_rfl) (by kernel_rfl) (fun _ _ _ h => h) (by kernel_rfl) hS (fun W _ => by kernel_rfl) ?_
    refine rt_take (i := 6) (some 117) (.int .i64 N) rfl rfl (by kernel_rfl) (by kernel_rfl) (by kernel_rfl) (fun _ _ _ h => h) (by kernel_rfl) hS (fun W _ => by kernel_rfl) ?_
    refine rt_take (i := 7) (some 118) (.slice (some ⟨g, 0, none⟩) N cap) rfl rfl (by kernel_rfl) (by kernel_rfl) (by kernel_rfl) (fun _ _ _ h => h) (by kernel_rfl) hS (fun W _ => rs_upto (b := g) (n := N + 1) (c := cap) (j := N) rfl (by kernel_rfl) (by kernel_rfl) (by omega) (by omega) (by omega)) ?_
    refine rt_take (i := 8) (some 119) (.slice (some ⟨gm, 0, none⟩) m.length cm) rfl rfl (by kernel_rfl) (by kernel_rfl) (by kernel_rfl) (fun _ _ _ h => h) (by kernel_rfl) hS (fun W _ => by kernel_rfl) ?_
    refine rt_take (i := 9) (some 120) (.int .i64 N) rfl rfl (by kernel_rfl) (by kernel_rfl) (by kernel_rfl) (fun _ _ _ h => h) (by kernel_rfl) hS (fun W _ => by kernel_rfl) ?_
    refine rt_take (i := 10) (some 121) (.slice (some ⟨gm, 0, none⟩) N cm) rfl rfl (by kernel_rfl) (by kernel_rfl) (by kernel_rfl) (fun _ _ _ h => h) (by kernel_rfl) hS (fun W _ => rs_upto (b := gm) (n := m.length) (c := cm) (j := N) rfl (by kernel_rfl) (by kernel_rfl) (by omega) (by omega) (by omega)) ?_
    refine rt_call (i := 11) (some 122) (by kernel_rfl) rfl rfl (by kernel_rfl) 33 #[.slice (some ⟨g, 0, none⟩) N cap, .slice (some ⟨gm, 0, none⟩) N cm] (by kernel_rfl) (HEQ.out _ hS) ?_
    rintro x1 W9 ⟨rfl, hb⟩
    refine ⟨_, rfl, hS.tr hb, fun hS => ?_⟩
    refine rt_take (i := 12) (some 123) (.bool true) rfl rfl (by kernel_rfl) (by kernel_rfl) (by kernel_rfl) (fun _ _ _ h => h) (by kernel_rfl) hS (fun W _ => by kernel_rfl) ?_
    refine rt_take (i := 13) (some 10) (.bool true) rfl rfl (by kernel_rfl) (by kernel_rfl) (by kernel_rfl) (fun _ _ _ h => h) (by kernel_rfl) hS (fun W _ => by kernel_rfl) ?_
    refine wpAnyH_done (by kernel_rfl) ?_ _
    try simp only [Act.put, List.setIfInBounds_toArray, List.set_cons_zero, List.set_cons_succ]
    have HB8 := Lib.hid (HB7.out.tr hS)
    clear hS
    go_wp2
    go_ret
    exact ⟨rfl, HB8.out⟩
  by_cases q1 : cut ≤ (N : Int) + 1
  rotate_left
  · skip
    have d0 : decide (cut ≥ 0) = true := decide_eq_true q0
    have d1 : decide (cut ≤ ((N : Int) + 1)) = false := decide_eq_false q1
    have HBM := HB34
    have HBX : Hid (Bel w4 w4) := Lib.hid (Bel.rfl_ w4)
    have HB5 := Lib.hid (HB4.out.tr HBX.out)
    have HP5 := Lib.hid (HP4.out.keep HBX.out)
    have HOWN5 := Lib.hid (HBX.out.own HOWN4.out)
    replace f0 := HBX.out.cell f0
    replace f5 := HBX.out.cell f5
    have HSRC := Lib.hid (fun W (hb : Bel w4 W) (hp : 0 < N + 1) => Sl.cellsEv (n := N + 1) (by have := (Sl.own_ev HOWN5.out rfl).keep hb; rwa [HLN.out] at this) hp)
    skip
    clear HB4 HP4 HOWN4
    go_upto_region 13 with fail
    go_cut [17, 18] from 76 to 86 (fun x y wx => x = .bool false ∧ y = .int .i64 0 ∧ Hid (Bel w4 wx))
    case first =>
      refine wp_region_held_drew (S := fun W => Bel w4 W) (by kernel_rfl) ((Bel.rfl_ w4).dr) (fun hS => ?_)
      refine rt_take (i := 0) (some 77) (.agg #[.slice A ps.length c]) rfl rfl (by kernel_rfl) (by kernel_rfl) (by kernel_rfl) (fun _ _ _ h => h) (by kernel_rfl) hS (fun W hb => rl_pg rfl (by kernel_rfl) ((HP5.out.keep hb).cell (i := 0) rfl)) ?_
      refine rt_take (i := 2) (some 79) (.slice (some ⟨g, 0, none⟩) (N + 1) cap) rfl rfl (by kernel_rfl) (by kernel_rfl) (by kernel_rfl) (fun _ _ _ h => h) (by kernel_rfl) hS (fun W _ => by kernel_rfl) ?_
      refine rt_take (i := 4) (some 81) (.agg #[.int .i64 1, .int .i64 0, .int .i64 0, .int .i64 0, .int .i64 0, .int .i64 0]) rfl rfl (by kernel_rfl) (by kernel_rfl) (by kernel_rfl) (fun _ _ _ h => h) (by kernel_rfl) hS (fun W _ => by kernel_rfl) ?_
      have hLO : w4.heap.size ≤ w4.drew.heap.size := hS.size
      generalize hw4d : w4.drew = WD at *
      clear hw4d
      refine st_two (i := 1) (j := 5) (by kernel_rfl) ?_ ?_
      · skip
        refine st_to (i := 1) (some 78) rfl rfl (by kernel_rfl) (.slice (some ⟨WD.heap.size, 0, none⟩) 0 0) (WD.alloc (.cells #[] EVT)) (by kernel_rfl) (hS.al _) ?_
        have hE := World.ownsRow_made (base := WD.heap.size) (e := EVT) (size := 6) WD #[] 0 (Nat.le_refl _) (Nat.zero_le _) rfl
        replace hS := hS.al (.cells #[] EVT)
        refine st_two (i := 3) (j := 5) (by kernel_rfl) ?_ ?_
        · skip
          refine st_appAll (i := 3) (some 80) rfl rfl rfl (.tmp 78) (.tmp 79) 27 rfl _ elEV (.slice (some ⟨WD.heap.size, 0, none⟩) 0 0) 0 [] (by kernel_rfl) hE (some ⟨g, 0, none⟩) (N + 1) cap (evC out) (by kernel_rfl) (by rw [evC_len, HLN.out]) (fun h => by cases h) (fun hp => HSRC.out _ hS hp) (evC_one _) (by simp only [maxLen]; omega) (by omega) (by simp only [alloc_size]; omega) ?_
          intro v80 W80 ho80 hg80
          obtain ⟨g80, cap80, rfl, hlo80, -⟩ := own_lies ho80 (by omega)
          have hS80 := bel_app hS hE hg80 (by first | exact hLO2 | omega)
          refine ⟨hS80, ?_⟩
          replace hS := hS80
          refine st_one (i := 5) (by kernel_rfl) ?_
          refine st_to (i := 5) (some 82) rfl rfl (by kernel_rfl) (.slice (some ⟨W80.heap.size, 0, none⟩) 1 1) (W80.alloc (.cells #[.int .i64 1, .int .i64 0, .int .i64 0, .int .i64 0, .int .i64 0, .int .i64 0] EVT)) (by kernel_rfl) (hS.al _) ?_
          have hK := Blk.new W80 EVT #[.int .i64 1, .int .i64 0, .int .i64 0, .int .i64 0, .int .i64 0, .int .i64 0]
          have hSZ : W80.heap.size < (W80.alloc (.cells #[.int .i64 1, .int .i64 0, .int .i64 0, .int .i64 0, .int .i64 0, .int .i64 0] EVT)).heap.size := by simp only [alloc_size]; omega
          replace hS := hS.al (.cells #[.int .i64 1, .int .i64 0, .int .i64 0, .int .i64 0, .int .i64 0, .int .i64 0] EVT)
          have ho6 := ((Bel.rfl_ W80).al (.cells #[.int .i64 1, .int .i64 0, .int .i64 0, .int .i64 0, .int .i64 0, .int .i64 0] EVT)).own ho80
          have hK6 := hK
          have hLO6 : WD.heap.size ≤ (W80.alloc (.cells #[.int .i64 1, .int .i64 0, .int .i64 0, .int .i64 0, .int .i64 0, .int .i64 0] EVT)).heap.size := by have := hg80.size; simp only [alloc_size] at this ⊢; omega
          have hLO7 : w4.heap.size ≤ WD.heap.size := hLO
          refine st_one (i := 6) (by kernel_rfl) ?_
          refine st_appAll (i := 6) (some 83) rfl rfl rfl (.tmp 80) (.tmp 82) 27 rfl _ elEV (.slice (some ⟨g80, 0, none⟩) (0 + (N + 1)) cap80) (0 + (N + 1)) ([] ++ evC out) (by kernel_rfl) ho6 (some ⟨W80.heap.size, 0, none⟩) 1 1 [.int .i64 1, .int .i64 0, .int .i64 0, .int .i64 0, .int .i64 0, .int .i64 0] (by kernel_rfl) rfl (fun h => by cases h) (fun _ => ⟨_, 0, rfl, fun j u hu => by rw [Nat.zero_add]; exact hK6.cell (by simpa using hu)⟩) (by simp [Value.oneCell']) (by simp only [maxLen]; omega) (by omega) hLO6 ?_
          intro v83 W83 ho83 hg83
          have hS83 := bel_app hS ho6 hg83 hLO7
          refine ⟨hS83, ?_⟩
          obtain ⟨A83, c83, rfl, -⟩ := own_lit ho83
          have hsl : Sl evR W83 (.slice A83 (0 + (N + 1) + 1) c83) (out ++ [⟨1, 0, 0, 0, 0, 0⟩]) := by
            have h1 := ho83
            rw [List.nil_append, show evC out ++ [.int .i64 1, .int .i64 0, .int .i64 0, .int .i64 0, .int .i64 0, .int .i64 0] = evC (out ++ [⟨1, 0, 0, 0, 0, 0⟩]) by rw [evC_app]; rfl] at h1
            exact Sl.own_ev h1 (by rw [List.length_append, HLN.out]; simp)
          have hS := hS83
          refine rt_call (i := 7) (some 84) (by kernel_rfl) rfl rfl (by kernel_rfl) 31 #[.agg #[.slice A ps.length c], .slice A83 (0 + (N + 1) + 1) c83] (by kernel_rfl) (HRT.out _ (out ++ [⟨1, 0, 0, 0, 0, 0⟩]) _ (HB5.out.tr hS) hsl) ?_
          rintro x1 W9 ⟨hb, ⟨hne, -⟩ | ⟨-, ok, rfl, hok⟩⟩
          · exact absurd (HREP.out _ (by rw [List.length_append, HLN.out, List.length_singleton]; omega)) hne
          obtain rfl : ok = false := by
            cases ok with
            | false => rfl
            | true => exact absurd (hok.1 rfl) (HWRONG.out _)
          refine ⟨_, rfl, hS.tr hb, fun hS => ?_⟩
          refine rt_take (i := 8) (some 76) (.tuple #[.bool false, .int .i64 0]) rfl rfl (by kernel_rfl) (by kernel_rfl) (by kernel_rfl) (fun _ _ _ h => h) (by kernel_rfl) hS (fun W _ => by kernel_rfl) ?_
          refine rt_take (i := 9) (some 85) (.bool false) rfl rfl (by kernel_rfl) (by kernel_rfl) (by kernel_rfl) (fun _ _ _ h => h) (by kernel_rfl) hS (fun W _ => by kernel_rfl) ?_
          refine rt_take (i := 10) (some 86) (.int .i64 0) rfl rfl (by kernel_rfl) (by kernel_rfl) (by kernel_rfl) (fun _ _ _ h => h) (by kernel_rfl) hS (fun W _ => by kernel_rfl) ?_
          refine rt_take (i := 11) (some 17) (.bool false) rfl rfl (by kernel_rfl) (by kernel_rfl) (by kernel_rfl) (fun _ _ _ h => h) (by kernel_rfl) hS (fun W _ => by kernel_rfl) ?_
          refine rt_take (i := 12) (some 18) (.int .i64 0) rfl rfl (by kernel_rfl) (by kernel_rfl) (by kernel_rfl) (fun _ _ _ h => h) (by kernel_rfl) hS (fun W _ => by kernel_rfl) ?_
          refine wpAnyH_done (by kernel_rfl) ?_ _
          try simp only [Act.put, List.setIfInBounds_toArray, List.set_cons_zero, List.set_cons_succ]
          have HBZ := Lib.hid hS
          clear hS
          try go_wp2
          go_meet
          exact ⟨rfl, rfl, HBZ⟩
        · skip
          refine st_to (i := 5) (some 82) rfl rfl (by kernel_rfl) (.slice (some ⟨(WD.alloc (.cells #[] EVT)).heap.size, 0, none⟩) 1 1) ((WD.alloc (.cells #[] EVT)).alloc (.cells #[.int .i64 1, .int .i64 0, .int .i64 0, .int .i64 0, .int .i64 0, .int .i64 0] EVT)) (by kernel_rfl) (hS.al _) ?_
          have hK := Blk.new (WD.alloc (.cells #[] EVT)) EVT #[.int .i64 1, .int .i64 0, .int .i64 0, .int .i64 0, .int .i64 0, .int .i64 0]
          have hSZ : (WD.alloc (.cells #[] EVT)).heap.size < ((WD.alloc (.cells #[] EVT)).alloc (.cells #[.int .i64 1, .int .i64 0, .int .i64 0, .int .i64 0, .int .i64 0, .int .i64 0] EVT)).heap.size := by simp only [alloc_size]; omega
          replace hS := hS.al (.cells #[.int .i64 1, .int .i64 0, .int .i64 0, .int .i64 0, .int .i64 0, .int .i64 0] EVT)
          replace hE := ((Bel.rfl_ _).al (.cells #[.int .i64 1, .int .i64 0, .int .i64 0, .int .i64 0, .int .i64 0, .int .i64 0] EVT)).own hE
          refine st_one (i := 3) (by kernel_rfl) ?_
          refine st_appAll (i := 3) (some 80) rfl rfl rfl (.tmp 78) (.tmp 79) 27 rfl _ elEV (.slice (some ⟨WD.heap.size, 0, none⟩) 0 0) 0 [] (by kernel_rfl) hE (some ⟨g, 0, none⟩) (N + 1) cap (evC out) (by kernel_rfl) (by rw [evC_len, HLN.out]) (fun h => by cases h) (fun hp => HSRC.out _ hS hp) (evC_one _) (by simp only [maxLen]; omega) (by omega) (by simp only [alloc_size]; omega) ?_
          intro v80 W80 ho80 hg80
          obtain ⟨g80, cap80, rfl, hlo80, -⟩ := own_lies ho80 (by omega)
          have hS80 := bel_app hS hE hg80 (by first | exact hLO2 | omega)
          refine ⟨hS80, ?_⟩
          have ho6 := ho80
          have hK6 : Blk W80 (WD.alloc (.cells #[] EVT)).heap.size EVT #[.int .i64 1, .int .i64 0, .int .i64 0, .int .i64 0, .int .i64 0, .int .i64 0] := (hg80.block _ hSZ (by simp [Value.ownBlock])).trans hK
          replace hS := hS80
          have hLO6 : WD.heap.size ≤ W80.heap.size := by have := hg80.size; simp only [alloc_size] at this ⊢; omega
          have hLO7 : w4.heap.size ≤ WD.heap.size := hLO
          refine st_one (i := 6) (by kernel_rfl) ?_
          refine st_appAll (i := 6) (some 83) rfl rfl rfl (.tmp 80) (.tmp 82) 27 rfl _ elEV (.slice (some ⟨g80, 0, none⟩) (0 + (N + 1)) cap80) (0 + (N + 1)) ([] ++ evC out) (by kernel_rfl) ho6 (some ⟨(WD.alloc (.cells #[] EVT)).heap.size, 0, none⟩) 1 1 [.int .i64 1, .int .i64 0, .int .i64 0, .int .i64 0, .int .i64 0, .int .i64 0] (by kernel_rfl) rfl (fun h => by cases h) (fun _ => ⟨_, 0, rfl, fun j u hu => by rw [Nat.zero_add]; exact hK6.cell (by simpa using hu)⟩) (by simp [Value.oneCell']) (by simp only [maxLen]; omega) (by omega) hLO6 ?_
          intro v83 W83 ho83 hg83
          have hS83 := bel_app hS ho6 hg83 hLO7
          refine ⟨hS83, ?_⟩
          obtain ⟨A83, c83, rfl, -⟩ := own_lit ho83
          have hsl : Sl evR W83 (.slice A83 (0 + (N + 1) + 1) c83) (out ++ [⟨1, 0, 0, 0, 0, 0⟩]) := by
            have h1 := ho83
            rw [List.nil_append, show evC out ++ [.int .i64 1, .int .i64 0, .int .i64 0, .int .i64 0, .int .i64 0, .int .i64 0] = evC (out ++ [⟨1, 0, 0, 0, 0, 0⟩]) by rw [evC_app]; rfl] at h1
            exact Sl.own_ev h1 (by rw [List.length_append, HLN.out]; simp)
          have hS := hS83
          refine rt_call (i := 7) (some 84) (by kernel_rfl) rfl rfl (by kernel_rfl) 31 #[.agg #[.slice A ps.length c], .slice A83 (0 + (N + 1) + 1) c83] (by kernel_rfl) (HRT.out _ (out ++ [⟨1, 0, 0, 0, 0, 0⟩]) _ (HB5.out.tr hS) hsl) ?_
          rintro x1 W9 ⟨hb, ⟨hne, -⟩ | ⟨-, ok, rfl, hok⟩⟩
          · exact absurd (HREP.out _ (by rw [List.length_append, HLN.out, List.length_singleton]; omega)) hne
          obtain rfl : ok = false := by
            cases ok with
            | false => rfl
            | true => exact absurd (hok.1 rfl) (HWRONG.out _)
          refine ⟨_, rfl, hS.tr hb, fun hS => ?_⟩
          refine rt_take (i := 8) (some 76) (.tuple #[.bool false, .int .i64 0]) rfl rfl (by kernel_rfl) (by kernel_rfl) (by kernel_rfl) (fun _ _ _ h => h) (by kernel_rfl) hS (fun W _ => by kernel_rfl) ?_
          refine rt_take (i := 9) (some 85) (.bool false) rfl rfl (by kernel_rfl) (by kernel_rfl) (by kernel_rfl) (fun _ _ _ h => h) (by kernel_rfl) hS (fun W _ => by kernel_rfl) ?_
          refine rt_take (i := 10) (some 86) (.int .i64 0) rfl rfl (by kernel_rfl) (by kernel_rfl) (by kernel_rfl) (fun _ _ _ h => h) (by kernel_rfl) hS (fun W _ => by kernel_rfl) ?_
          refine rt_take (i := 11) (some 17) (.bool false) rfl rfl (by kernel_rfl) (by kernel_rfl) (by kernel_rfl) (fun _ _ _ h => h) (by kernel_rfl) hS (fun W _ => by kernel_rfl) ?_
          refine rt_take (i := 12) (some 18) (.int .i64 0) rfl rfl (by kernel_rfl) (by kernel_rfl) (by kernel_rfl) (fun _ _ _ h => h) (by kernel_rfl) hS (fun W _ => by kernel_rfl) ?_
          refine wpAnyH_done (by kernel_rfl) ?_ _
          try simp only [Act.put, List.setIfInBounds_toArray, List.set_cons_zero, List.set_cons_succ]
          have HBZ := Lib.hid hS
          clear hS
          try go_wp2
          go_meet
          exact ⟨rfl, rfl, HBZ⟩
      · skip
        refine st_to (i := 5) (some 82) rfl rfl (by kernel_rfl) (.slice (some ⟨WD.heap.size, 0, none⟩) 1 1) (WD.alloc (.cells #[.int .i64 1, .int .i64 0, .int .i64 0, .int .i64 0, .int .i64 0, .int .i64 0] EVT)) (by kernel_rfl) (hS.al _) ?_
        have hK := Blk.new WD EVT #[.int .i64 1, .int .i64 0, .int .i64 0, .int .i64 0, .int .i64 0, .int .i64 0]
        have hSZ : WD.heap.size < (WD.alloc (.cells #[.int .i64 1, .int .i64 0, .int .i64 0, .int .i64 0, .int .i64 0, .int .i64 0] EVT)).heap.size := by simp only [alloc_size]; omega
        replace hS := hS.al (.cells #[.int .i64 1, .int .i64 0, .int .i64 0, .int .i64 0, .int .i64 0, .int .i64 0] EVT)
        refine st_one (i := 1) (by kernel_rfl) ?_
        generalize hWE : WD.alloc (.cells #[.int .i64 1, .int .i64 0, .int .i64 0, .int .i64 0, .int .i64 0, .int .i64 0] EVT) = WE at *
        refine st_to (i := 1) (some 78) rfl rfl (by kernel_rfl) (.slice (some ⟨WE.heap.size, 0, none⟩) 0 0) (WE.alloc (.cells #[] EVT)) (by kernel_rfl) (hS.al _) ?_
        have hE := World.ownsRow_made (base := WE.heap.size) (e := EVT) (size := 6) WE #[] 0 (Nat.le_refl _) (Nat.zero_le _) rfl
        replace hS := hS.al (.cells #[] EVT)
        refine st_one (i := 3) (by kernel_rfl) ?_
        have hWL : WD.heap.size < WE.heap.size := hSZ
        have hKE := hK.keep ((Bel.rfl_ WE).al (.cells #[] EVT))
        refine st_appAll (i := 3) (some 80) rfl rfl rfl (.tmp 78) (.tmp 79) 27 rfl _ elEV (.slice (some ⟨WE.heap.size, 0, none⟩) 0 0) 0 [] (by kernel_rfl) hE (some ⟨g, 0, none⟩) (N + 1) cap (evC out) (by kernel_rfl) (by rw [evC_len, HLN.out]) (fun h => by cases h) (fun hp => HSRC.out _ hS hp) (evC_one _) (by simp only [maxLen]; omega) (by omega) (by simp only [alloc_size]; omega) ?_
        intro v80 W80 ho80 hg80
        obtain ⟨g80, cap80, rfl, hlo80, -⟩ := own_lies ho80 (by omega)
        have hS80 := bel_app hS hE hg80 (by first | exact hLO2 | omega)
        refine ⟨hS80, ?_⟩
        have ho6 := ho80
        have hK6 : Blk W80 WD.heap.size EVT #[.int .i64 1, .int .i64 0, .int .i64 0, .int .i64 0, .int .i64 0, .int .i64 0] := (hg80.block _ (by rw [alloc_size]; omega) (by simp [Value.ownBlock]; omega)).trans hKE
        replace hS := hS80
        have hLO6 : WE.heap.size ≤ W80.heap.size := by have := hg80.size; simp only [alloc_size] at this ⊢; omega
        have hLO7 : w4.heap.size ≤ WE.heap.size := by omega
        refine st_one (i := 6) (by kernel_rfl) ?_
        refine st_appAll (i := 6) (some 83) rfl rfl rfl (.tmp 80) (.tmp 82) 27 rfl _ elEV (.slice (some ⟨g80, 0, none⟩) (0 + (N + 1)) cap80) (0 + (N + 1)) ([] ++ evC out) (by kernel_rfl) ho6 (some ⟨WD.heap.size, 0, none⟩) 1 1 [.int .i64 1, .int .i64 0, .int .i64 0, .int .i64 0, .int .i64 0, .int .i64 0] (by kernel_rfl) rfl (fun h => by cases h) (fun _ => ⟨_, 0, rfl, fun j u hu => by rw [Nat.zero_add]; exact hK6.cell (by simpa using hu)⟩) (by simp [Value.oneCell']) (by simp only [maxLen]; omega) (by omega) hLO6 ?_
        intro v83 W83 ho83 hg83
        have hS83 := bel_app hS ho6 hg83 hLO7
        refine ⟨hS83, ?_⟩
        obtain ⟨A83, c83, rfl, -⟩ := own_lit ho83
        have hsl : Sl evR W83 (.slice A83 (0 + (N + 1) + 1) c83) (out ++ [⟨1, 0, 0, 0, 0, 0⟩]) := by
          have h1 := ho83
          rw [List.nil_append, show evC out ++ [.int .i64 1, .int .i64 0, .int .i64 0, .int .i64 0, .int .i64 0, .int .i64 0] = evC (out ++ [⟨1, 0, 0, 0, 0, 0⟩]) by rw [evC_app]; rfl] at h1
          exact Sl.own_ev h1 (by rw [List.length_append, HLN.out]; simp)
        have hS := hS83
        refine rt_call (i := 7) (some 84) (by kernel_rfl) rfl rfl (by kernel_rfl) 31 #[.agg #[.slice A ps.length c], .slice A83 (0 + (N + 1) + 1) c83] (by kernel_rfl) (HRT.out _ (out ++ [⟨1, 0, 0, 0, 0, 0⟩]) _ (HB5.out.tr hS) hsl) ?_
        rintro x1 W9 ⟨hb, ⟨hne, -⟩ | ⟨-, ok, rfl, hok⟩⟩
        · exact absurd (HREP.out _ (by rw [List.length_append, HLN.out, List.length_singleton]; omega)) hne
        obtain rfl : ok = false := by
          cases ok with
          | false => rfl
          | true => exact absurd (hok.1 rfl) (HWRONG.out _)
        refine ⟨_, rfl, hS.tr hb, fun hS => ?_⟩
        refine rt_take (i := 8) (some 76) (.tuple #[.bool false, .int .i64 0]) rfl rfl (by kernel_rfl) (by kernel_rfl) (by kernel_rfl) (fun _ _ _ h => h) (by kernel_rfl) hS (fun W _ => by kernel_rfl) ?_
        refine rt_take (i := 9) (some 85) (.bool false) rfl rfl (by kernel_rfl) (by kernel_rfl) (by kernel_rfl) (fun _ _ _ h => h) (by kernel_rfl) hS (fun W _ => by kernel_rfl) ?_
        refine rt_take (i := 10) (some 86) (.int .i64 0) rfl rfl (by kernel_rfl) (by kernel_rfl) (by kernel_rfl) (fun _ _ _ h => h) (by kernel_rfl) hS (fun W _ => by kernel_rfl) ?_
        refine rt_take (i := 11) (some 17) (.bool false) rfl rfl (by kernel_rfl) (by kernel_rfl) (by kernel_rfl) (fun _ _ _ h => h) (by kernel_rfl) hS (fun W _ => by kernel_rfl) ?_
        refine rt_take (i := 12) (some 18) (.int .i64 0) rfl rfl (by kernel_rfl) (by kernel_rfl) (by kernel_rfl) (fun _ _ _ h => h) (by kernel_rfl) hS (fun W _ => by kernel_rfl) ?_
        refine wpAnyH_done (by kernel_rfl) ?_ _
        try simp only [Act.put, List.setIfInBounds_toArray, List.set_cons_zero, List.set_cons_succ]
        have HBZ := Lib.hid hS
        clear hS
        try go_wp2
        go_meet
        exact ⟨rfl, rfl, HBZ⟩
    case rest =>
    obtain ⟨rfl, rfl, HB6⟩ := hcut
    replace f0 := HB6.out.cell f0
    replace f5 := HB6.out.cell f5
    have HOWN6 := Lib.hid (HB6.out.own HOWN5.out)
    have HB7 := Lib.hid (HB5.out.tr HB6.out)
    clear HOWN5 HP5 HB5 HSRC HRT HREP HRIGHT HWRONG HRUN HSL HIN HBT HB34
    rcases HM.out with hme | ⟨rfl, m, gm, cm, hm, hml, rfl, ⟨hmc, hmc0⟩, hsm⟩
    · have dm : (me != 0) = true := by simpa using hme
      clear hme
      go_wp2
      go_ret
      exact ⟨rfl, HB7.out⟩
    by_cases hfm : more < fuel
    · have dl : decide (more < fuel) = true := decide_eq_true hfm
      go_wp2
      go_ret
      exact ⟨rfl, HB7.out⟩
    have dl : decide (more < fuel) = false := decide_eq_false hfm
    obtain ⟨l1, e1, ho1, h71, hv1, hle1, htk1⟩ := HMORE.out m (by omega) hm
    obtain ⟨rfl, rfl⟩ : l0 = l1 ∧ e7 = e1 := by
      have := HOUT.out.symm.trans ho1
      exact ⟨(List.append_inj' this rfl).1, by simpa using (List.append_inj' this rfl).2⟩
    have HSM := Lib.hid (hsm.keep (HBM.out.tr HB6.out))
    have HTK := Lib.hid htk1
    have HV1 := Lib.hid hv1
    have HMM : Hid (m.length ≤ 3600) := Lib.hid hml
    clear hm hml hsm ho1 h71 hv1 htk1 HMORE HM hfm
    skip
    by_cases hv : e7.value = 1
    rotate_left
    · have dv : (e7.value != 1) = true := by simpa using hv
      have hom := HV1.out hv
      have HEQ := Lib.hid (sameEvents_any _ _ out m _ (Sl.own_ev HOWN6.out rfl) HSM.out (by unfold ok64; have := HLN.out; omega) (by unfold ok64; have := HMM.out; omega))
      rw [decide_eq_true hom, HLN.out] at HEQ
      clear hom hv hle1
      go_wp2_with fail
      refine HEQ.out.mono ?_
      rintro r w7 ⟨rfl, b7⟩
      have HB8 := Lib.hid (HB7.out.tr b7)
      clear b7
      go_wp2
      go_ret
      exact ⟨rfl, HB8.out⟩
    have dv : (e7.value != 1) = false := by rw [hv]; rfl
    have hNm : N ≤ m.length := by rw [HN.out]; exact hle1
    have dN : decide ((N : Int) ≤ m.length) = true := decide_eq_true (by omega)
    have HS1 : Hid (Sl evR wc (.slice (some ⟨g, 0, none⟩) N cap) (out.take N)) := Lib.hid (Sl.upto (by have := Sl.own_ev HOWN6.out rfl; exact this) (by have := HLN.out; omega))
    have HS2 : Hid (Sl evR wc (.slice (some ⟨gm, 0, none⟩) N cm) (m.take N)) := Lib.hid (Sl.upto HSM.out hNm)
    have HEQ := Lib.hid (fun W (hb : Bel wc W) => sameEvents_any _ _ (out.take N) (m.take N) W (HS1.out.keep hb) (HS2.out.keep hb) (by unfold ok64; rw [List.length_take]; omega) (by unfold ok64; rw [List.length_take]; omega))
    have hte : out.take N = m.take N := by
      rw [HN.out, ← HTK.out, HOUT.out, List.take_left' rfl]
    rw [decide_eq_true hte] at HEQ
    clear hte hv HS1 HS2 hle1
    go_upto_region 21 with fail
    refine wp_region_held_drew (S := fun W => Bel wc W) (by kernel_rfl) ((Bel.rfl_ wc).dr) (fun hS => ?_)
    refine rt_take (i := 0) (some 111) (.int .i64 N) rfl rfl (by kernel_rfl) (by kernel_rfl) (by kernel_rfl) (fun _ _ _ h => h) (by kernel_rfl) hS (fun W _ => by kernel_rfl) ?_
    refine rt_take (i := 1) (some 112) (.slice (some ⟨gm, 0, none⟩) m.length cm) rfl rfl (by kernel_rfl) (by kernel_rfl) (by kernel_rfl) (fun _ _ _ h => h) (by kernel_rfl) hS (fun W _ => by kernel_rfl) ?_
    refine rt_take (i := 2) (some 113) (.int .i64 m.length) rfl rfl (by kernel_rfl) (by kernel_rfl) (by kernel_rfl) (fun _ _ _ h => h) (by kernel_rfl) hS (fun W _ => by kernel_rfl) ?_
    refine rt_take (i := 3) (some 114) (.bool true) rfl rfl (by kernel_rfl) (by kernel_rfl) (by kernel_rfl) (fun _ _ _ h => h) (by kernel_rfl) hS (fun W _ => rb_leqI (k := N) (l := m.length) rfl (by kernel_rfl) (by kernel_rfl) dN) ?_
    refine rt_take (i := 4) (some 115) (.bool true) rfl rfl (by kernel_rfl) (by kernel_rfl) (by kernel_rfl) (fun _ _ _ h => h) (by kernel_rfl) hS (fun W _ => by kernel_rfl) ?_
    refine rt_take (i := 5) (some 116) (.slice (some ⟨g, 0, none⟩) (N + 1) cap) rfl rfl (by kernel_rfl) (by kernel_rfl) (by kernel_rfl) (fun _ _ _ h => h) (by kernel_rfl) hS (fun W _ => by kernel_rfl) ?_
    refine rt_take (i := 6) (some 117) (.int .i64 N) rfl rfl (by kernel_rfl) (by kernel_rfl) (by kernel_rfl) (fun _ _ _ h => h) (by kernel_rfl) hS (fun W _ => by kernel_rfl) ?_
    refine rt_take (i := 7) (some 118) (.slice (some ⟨g, 0, none⟩) N cap) rfl rfl (by kernel_rfl) (by kernel_rfl) (by kernel_rfl) (fun _ _ _ h => h) (by kernel_rfl) hS (fun W _ => rs_upto (b := g) (n := N + 1) (c := cap) (j := N) rfl (by kernel_rfl) (by kernel_rfl) (by omega) (by omega) (by omega)) ?_
    refine rt_take (i := 8) (some 119) (.slice (some ⟨gm, 0, none⟩) m.length cm) rfl rfl (by kernel_rfl) (by kernel_rfl) (by kernel_rfl) (fun _ _ _ h => h) (by kernel_rfl) hS (fun W _ => by kernel_rfl) ?_
    refine rt_take (i := 9) (some 120) (.int .i64 N) rfl rfl (by kernel_rfl) (by kernel_rfl) (by kernel_rfl) (fun _ _ _ h => h) (by kernel_rfl) hS (fun W _ => by kernel_rfl) ?_
    refine rt_take (i := 10) (some 121) (.slice (some ⟨gm, 0, none⟩) N cm) rfl rfl (by kernel_rfl) (by kernel_rfl) (by kernel_rfl) (fun _ _ _ h => h) (by kernel_rfl) hS (fun W _ => rs_upto (b := gm) (n := m.length) (c := cm) (j := N) rfl (by kernel_rfl) (by kernel_rfl) (by omega) (by omega) (by omega)) ?_
    refine rt_call (i := 11) (some 122) (by kernel_rfl) rfl rfl (by kernel_rfl) 33 #[.slice (some ⟨g, 0, none⟩) N cap, .slice (some ⟨gm, 0, none⟩) N cm] (by kernel_rfl) (HEQ.out _ hS) ?_
    rintro x1 W9 ⟨rfl, hb⟩
    refine ⟨_, rfl, hS.tr hb, fun hS => ?_⟩
    refine rt_take (i := 12) (some 123) (.bool true) rfl rfl (by kernel_rfl) (by kernel_rfl) (by kernel_rfl) (fun _ _ _ h => h) (by kernel_rfl) hS (fun W _ => by kernel_rfl) ?_
    refine rt_take (i := 13) (some 10) (.bool true) rfl rfl (by kernel_rfl) (by kernel_rfl) (by kernel_rfl) (fun _ _ _ h => h) (by kernel_rfl) hS (fun W _ => by kernel_rfl) ?_
    refine wpAnyH_done (by kernel_rfl) ?_ _
    try simp only [Act.put, List.setIfInBounds_toArray, List.set_cons_zero, List.set_cons_succ]
    have HB8 := Lib.hid (HB7.out.tr hS)
    clear hS
    go_wp2
    go_ret
    exact ⟨rfl, HB8.out⟩
  have d0 : decide (cut ≥ 0) = true := decide_eq_true q0
  have d1 : decide (cut ≤ ((N : Int) + 1)) = true := decide_eq_true q1
  have HCUT : Hid (∀ W, Bel w4 W → Sl evR W (.slice (some ⟨g, 0, none⟩) cut.toNat cap) (out.take cut.toNat)) := Lib.hid (fun W hb => by
    have h1 := (cut_evs (l := out) HOWN4.out (i := 0) (j := cut.toNat) (by omega) (by have := HLN.out; omega) (by omega)).keep hb
    simpa using h1)
  go_upto_region 10 with fail
  refine wp_region_held_drew (S := fun W => Bel w4 W) (by kernel_rfl) ((Bel.rfl_ w4).dr) (fun hS => ?_)
  refine rt_take (i := 0) (some 63) (.agg #[.slice A ps.length c]) rfl rfl (by kernel_rfl) (by kernel_rfl) (by kernel_rfl) (fun _ _ _ h => h) (by kernel_rfl) hS (fun W hb => rl_pg rfl (by kernel_rfl) ((HP4.out.keep hb).cell (i := 0) rfl)) ?_
  refine rt_take (i := 1) (some 64) (.slice (some ⟨g, 0, none⟩) (N + 1) cap) rfl rfl (by kernel_rfl) (by kernel_rfl) (by kernel_rfl) (fun _ _ _ h => h) (by kernel_rfl) hS (fun W _ => by kernel_rfl) ?_
  refine rt_take (i := 2) (some 65) (.int .i64 cut) rfl rfl (by kernel_rfl) (by kernel_rfl) (by kernel_rfl) (fun _ _ _ h => h) (by kernel_rfl) hS (fun W _ => by kernel_rfl) ?_
  refine rt_take (i := 3) (some 66) (.slice (some ⟨g, 0, none⟩) cut.toNat cap) rfl rfl (by kernel_rfl) (by kernel_rfl) (by kernel_rfl) (fun _ _ _ h => h) (by kernel_rfl) hS (fun W _ => rs_upto (b := g) (n := N + 1) (c := cap) (j := cut) rfl (by kernel_rfl) (by kernel_rfl) q0 (by omega) (by omega)) ?_
  refine rt_call (i := 4) (some 67) (by kernel_rfl) rfl rfl (by kernel_rfl) 31 #[.agg #[.slice A ps.length c], .slice (some ⟨g, 0, none⟩) cut.toNat cap] (by kernel_rfl) (HRT.out _ (out.take cut.toNat) _ (HB4.out.tr hS) (HCUT.out _ hS)) ?_
  rintro x1 W5 ⟨hb, ⟨hne, -⟩ | ⟨-, ok, rfl, hok⟩⟩
  · exact absurd (HREP.out _ (by rw [List.length_take]; omega)) hne
  obtain rfl : ok = true := hok.2 (HRIGHT.out _ (by have := HLN.out; omega))
  refine ⟨_, rfl, hS.tr hb, fun hS => ?_⟩
  refine rt_take (i := 5) (some 62) (.tuple #[.bool true, .int .i64 0]) rfl rfl (by kernel_rfl) (by kernel_rfl) (by kernel_rfl) (fun _ _ _ h => h) (by kernel_rfl) hS (fun W _ => by kernel_rfl) ?_
  refine rt_take (i := 6) (some 68) (.bool true) rfl rfl (by kernel_rfl) (by kernel_rfl) (by kernel_rfl) (fun _ _ _ h => h) (by kernel_rfl) hS (fun W _ => by kernel_rfl) ?_
  refine rt_take (i := 7) (some 69) (.int .i64 0) rfl rfl (by kernel_rfl) (by kernel_rfl) (by kernel_rfl) (fun _ _ _ h => h) (by kernel_rfl) hS (fun W _ => by kernel_rfl) ?_
  refine rt_take (i := 8) (some 15) (.bool true) rfl rfl (by kernel_rfl) (by kernel_rfl) (by kernel_rfl) (fun _ _ _ h => h) (by kernel_rfl) hS (fun W _ => by kernel_rfl) ?_
  refine rt_take (i := 9) (some 16) (.int .i64 0) rfl rfl (by kernel_rfl) (by kernel_rfl) (by kernel_rfl) (fun _ _ _ h => h) (by kernel_rfl) hS (fun W _ => by kernel_rfl) ?_
  refine wpAnyH_done (by kernel_rfl) ?_ _
  try simp only [Act.put, List.setIfInBounds_toArray, List.set_cons_zero, List.set_cons_succ]
  have HBX : Hid (Bel w4 W5) := Lib.hid hS
  have HBM := Lib.hid (HB34.out.tr HBX.out)
  clear hS hb hok HCUT
  have HB5 := Lib.hid (HB4.out.tr HBX.out)
  have HP5 := Lib.hid (HP4.out.keep HBX.out)
  have HOWN5 := Lib.hid (HBX.out.own HOWN4.out)
  replace f0 := HBX.out.cell f0
  replace f5 := HBX.out.cell f5
  have HSRC := Lib.hid (fun W (hb : Bel W5 W) (hp : 0 < N + 1) => Sl.cellsEv (n := N + 1) (by have := (Sl.own_ev HOWN5.out rfl).keep hb; rwa [HLN.out] at this) hp)
  skip
  clear HB4 HP4 HOWN4
  go_upto_region 13 with fail
  go_cut [17, 18] from 76 to 86 (fun x y wx => x = .bool false ∧ y = .int .i64 0 ∧ Hid (Bel W5 wx))
  case first =>
    refine wp_region_held_drew (S := fun W => Bel W5 W) (by kernel_rfl) ((Bel.rfl_ W5).dr) (fun hS => ?_)
    refine rt_take (i := 0) (some 77) (.agg #[.slice A ps.length c]) rfl rfl (by kernel_rfl) (by kernel_rfl) (by kernel_rfl) (fun _ _ _ h => h) (by kernel_rfl) hS (fun W hb => rl_pg rfl (by kernel_rfl) ((HP5.out.keep hb).cell (i := 0) rfl)) ?_
    refine rt_take (i := 2) (some 79) (.slice (some ⟨g, 0, none⟩) (N + 1) cap) rfl rfl (by kernel_rfl) (by kernel_rfl) (by kernel_rfl) (fun _ _ _ h => h) (by kernel_rfl) hS (fun W _ => by kernel_rfl) ?_
    refine rt_take (i := 4) (some 81) (.agg #[.int .i64 1, .int .i64 0, .int .i64 0, .int .i64 0, .int .i64 0, .int .i64 0]) rfl rfl (by kernel_rfl) (by kernel_rfl) (by kernel_rfl) (fun _ _ _ h => h) (by kernel_rfl) hS (fun W _ => by kernel_rfl) ?_
    have hLO : W5.heap.size ≤ W5.drew.heap.size := hS.size
    generalize hW5d : W5.drew = WD at *
    clear hW5d
    refine st_two (i := 1) (j := 5) (by kernel_rfl) ?_ ?_
    · skip
      refine st_to (i := 1) (some 78) rfl rfl (by kernel_rfl) (.slice (some ⟨WD.heap.size, 0, none⟩) 0 0) (WD.alloc (.cells #[] EVT)) (by kernel_rfl) (hS.al _) ?_
      have hE := World.ownsRow_made (base := WD.heap.size) (e := EVT) (size := 6) WD #[] 0 (Nat.le_refl _) (Nat.zero_le _) rfl
      replace hS := hS.al (.cells #[] EVT)
      refine st_two (i := 3) (j := 5) (by kernel_rfl) ?_ ?_
      · skip
        refine st_appAll (i := 3) (some 80) rfl rfl rfl (.tmp 78) (.tmp 79) 27 rfl _ elEV (.slice (some ⟨WD.heap.size, 0, none⟩) 0 0) 0 [] (by kernel_rfl) hE (some ⟨g, 0, none⟩) (N + 1) cap (evC out) (by kernel_rfl) (by rw [evC_len, HLN.out]) (fun h => by cases h) (fun hp => HSRC.out _ hS hp) (evC_one _) (by simp only [maxLen]; omega) (by omega) (by simp only [alloc_size]; omega) ?_
        intro v80 W80 ho80 hg80
        obtain ⟨g80, cap80, rfl, hlo80, -⟩ := own_lies ho80 (by omega)
        have hS80 := bel_app hS hE hg80 (by first | exact hLO2 | omega)
        refine ⟨hS80, ?_⟩
        replace hS := hS80
        refine st_one (i := 5) (by kernel_rfl) ?_
        refine st_to (i := 5) (some 82) rfl rfl (by kernel_rfl) (.slice (some ⟨W80.heap.size, 0, none⟩) 1 1) (W80.alloc (.cells #[.int .i64 1, .int .i64 0, .int .i64 0, .int .i64 0, .int .i64 0, .int .i64 0] EVT)) (by kernel_rfl) (hS.al _) ?_
        have hK := Blk.new W80 EVT #[.int .i64 1, .int .i64 0, .int .i64 0, .int .i64 0, .int .i64 0, .int .i64 0]
        have hSZ : W80.heap.size < (W80.alloc (.cells #[.int .i64 1, .int .i64 0, .int .i64 0, .int .i64 0, .int .i64 0, .int .i64 0] EVT)).heap.size := by simp only [alloc_size]; omega
        replace hS := hS.al (.cells #[.int .i64 1, .int .i64 0, .int .i64 0, .int .i64 0, .int .i64 0, .int .i64 0] EVT)
        have ho6 := ((Bel.rfl_ W80).al (.cells #[.int .i64 1, .int .i64 0, .int .i64 0, .int .i64 0, .int .i64 0, .int .i64 0] EVT)).own ho80
        have hK6 := hK
        have hLO6 : WD.heap.size ≤ (W80.alloc (.cells #[.int .i64 1, .int .i64 0, .int .i64 0, .int .i64 0, .int .i64 0, .int .i64 0] EVT)).heap.size := by have := hg80.size; simp only [alloc_size] at this ⊢; omega
        have hLO7 : W5.heap.size ≤ WD.heap.size := hLO
        refine st_one (i := 6) (by kernel_rfl) ?_
        refine st_appAll (i := 6) (some 83) rfl rfl rfl (.tmp 80) (.tmp 82) 27 rfl _ elEV (.slice (some ⟨g80, 0, none⟩) (0 + (N + 1)) cap80) (0 + (N + 1)) ([] ++ evC out) (by kernel_rfl) ho6 (some ⟨W80.heap.size, 0, none⟩) 1 1 [.int .i64 1, .int .i64 0, .int .i64 0, .int .i64 0, .int .i64 0, .int .i64 0] (by kernel_rfl) rfl (fun h => by cases h) (fun _ => ⟨_, 0, rfl, fun j u hu => by rw [Nat.zero_add]; exact hK6.cell (by simpa using hu)⟩) (by simp [Value.oneCell']) (by simp only [maxLen]; omega) (by omega) hLO6 ?_
        intro v83 W83 ho83 hg83
        have hS83 := bel_app hS ho6 hg83 hLO7
        refine ⟨hS83, ?_⟩
        obtain ⟨A83, c83, rfl, -⟩ := own_lit ho83
        have hsl : Sl evR W83 (.slice A83 (0 + (N + 1) + 1) c83) (out ++ [⟨1, 0, 0, 0, 0, 0⟩]) := by
          have h1 := ho83
          rw [List.nil_append, show evC out ++ [.int .i64 1, .int .i64 0, .int .i64 0, .int .i64 0, .int .i64 0, .int .i64 0] = evC (out ++ [⟨1, 0, 0, 0, 0, 0⟩]) by rw [evC_app]; rfl] at h1
          exact Sl.own_ev h1 (by rw [List.length_append, HLN.out]; simp)
        have hS := hS83
        refine rt_call (i := 7) (some 84) (by kernel_rfl) rfl rfl (by kernel_rfl) 31 #[.agg #[.slice A ps.length c], .slice A83 (0 + (N + 1) + 1) c83] (by kernel_rfl) (HRT.out _ (out ++ [⟨1, 0, 0, 0, 0, 0⟩]) _ (HB5.out.tr hS) hsl) ?_
        rintro x1 W9 ⟨hb, ⟨hne, -⟩ | ⟨-, ok, rfl, hok⟩⟩
        · exact absurd (HREP.out _ (by rw [List.length_append, HLN.out, List.length_singleton]; omega)) hne
        obtain rfl : ok = false := by
          cases ok with
          | false => rfl
          | true => exact absurd (hok.1 rfl) (HWRONG.out _)
        refine ⟨_, rfl, hS.tr hb, fun hS => ?_⟩
        refine rt_take (i := 8) (some 76) (.tuple #[.bool false, .int .i64 0]) rfl rfl (by kernel_rfl) (by kernel_rfl) (by kernel_rfl) (fun _ _ _ h => h) (by kernel_rfl) hS (fun W _ => by kernel_rfl) ?_
        refine rt_take (i := 9) (some 85) (.bool false) rfl rfl (by kernel_rfl) (by kernel_rfl) (by kernel_rfl) (fun _ _ _ h => h) (by kernel_rfl) hS (fun W _ => by kernel_rfl) ?_
        refine rt_take (i := 10) (some 86) (.int .i64 0) rfl rfl (by kernel_rfl) (by kernel_rfl) (by kernel_rfl) (fun _ _ _ h => h) (by kernel_rfl) hS (fun W _ => by kernel_rfl) ?_
        refine rt_take (i := 11) (some 17) (.bool false) rfl rfl (by kernel_rfl) (by kernel_rfl) (by kernel_rfl) (fun _ _ _ h => h) (by kernel_rfl) hS (fun W _ => by kernel_rfl) ?_
        refine rt_take (i := 12) (some 18) (.int .i64 0) rfl rfl (by kernel_rfl) (by kernel_rfl) (by kernel_rfl) (fun _ _ _ h => h) (by kernel_rfl) hS (fun W _ => by kernel_rfl) ?_
        refine wpAnyH_done (by kernel_rfl) ?_ _
        try simp only [Act.put, List.setIfInBounds_toArray, List.set_cons_zero, List.set_cons_succ]
        have HBZ := Lib.hid hS
        clear hS
        try go_wp2
        go_meet
        exact ⟨rfl, rfl, HBZ⟩
      · skip
        refine st_to (i := 5) (some 82) rfl rfl (by kernel_rfl) (.slice (some ⟨(WD.alloc (.cells #[] EVT)).heap.size, 0, none⟩) 1 1) ((WD.alloc (.cells #[] EVT)).alloc (.cells #[.int .i64 1, .int .i64 0, .int .i64 0, .int .i64 0, .int .i64 0, .int .i64 0] EVT)) (by kernel_rfl) (hS.al _) ?_
        have hK := Blk.new (WD.alloc (.cells #[] EVT)) EVT #[.int .i64 1, .int .i64 0, .int .i64 0, .int .i64 0, .int .i64 0, .int .i64 0]
        have hSZ : (WD.alloc (.cells #[] EVT)).heap.size < ((WD.alloc (.cells #[] EVT)).alloc (.cells #[.int .i64 1, .int .i64 0, .int .i64 0, .int .i64 0, .int .i64 0, .int .i64 0] EVT)).heap.size := by simp only [alloc_size]; omega
        replace hS := hS.al (.cells #[.int .i64 1, .int .i64 0, .int .i64 0, .int .i64 0, .int .i64 0, .int .i64 0] EVT)
        replace hE := ((Bel.rfl_ _).al (.cells #[.int .i64 1, .int .i64 0, .int .i64 0, .int .i64 0, .int .i64 0, .int .i64 0] EVT)).own hE
        refine st_one (i := 3) (by kernel_rfl) ?_
        refine st_appAll (i := 3) (some 80) rfl rfl rfl (.tmp 78) (.tmp 79) 27 rfl _ elEV (.slice (some ⟨WD.heap.size, 0, none⟩) 0 0) 0 [] (by kernel_rfl) hE (some ⟨g, 0, none⟩) (N + 1) cap (evC out) (by kernel_rfl) (by rw [evC_len, HLN.out]) (fun h => by cases h) (fun hp => HSRC.out _ hS hp) (evC_one _) (by simp only [maxLen]; omega) (by omega) (by simp only [alloc_size]; omega) ?_
        intro v80 W80 ho80 hg80
        obtain ⟨g80, cap80, rfl, hlo80, -⟩ := own_lies ho80 (by omega)
        have hS80 := bel_app hS hE hg80 (by first | exact hLO2 | omega)
        refine ⟨hS80, ?_⟩
        have ho6 := ho80
        have hK6 : Blk W80 (WD.alloc (.cells #[] EVT)).heap.size EVT #[.int .i64 1, .int .i64 0, .int .i64 0, .int .i64 0, .int .i64 0, .int .i64 0] := (hg80.block _ hSZ (by simp [Value.ownBlock])).trans hK
        replace hS := hS80
        have hLO6 : WD.heap.size ≤ W80.heap.size := by have := hg80.size; simp only [alloc_size] at this ⊢; omega
        have hLO7 : W5.heap.size ≤ WD.heap.size := hLO
        refine st_one (i := 6) (by kernel_rfl) ?_
        refine st_appAll (i := 6) (some 83) rfl rfl rfl (.tmp 80) (.tmp 82) 27 rfl _ elEV (.slice (some ⟨g80, 0, none⟩) (0 + (N + 1)) cap80) (0 + (N + 1)) ([] ++ evC out) (by kernel_rfl) ho6 (some ⟨(WD.alloc (.cells #[] EVT)).heap.size, 0, none⟩) 1 1 [.int .i64 1, .int .i64 0, .int .i64 0, .int .i64 0, .int .i64 0, .int .i64 0] (by kernel_rfl) rfl (fun h => by cases h) (fun _ => ⟨_, 0, rfl, fun j u hu => by rw [Nat.zero_add]; exact hK6.cell (by simpa using hu)⟩) (by simp [Value.oneCell']) (by simp only [maxLen]; omega) (by omega) hLO6 ?_
        intro v83 W83 ho83 hg83
        have hS83 := bel_app hS ho6 hg83 hLO7
        refine ⟨hS83, ?_⟩
        obtain ⟨A83, c83, rfl, -⟩ := own_lit ho83
        have hsl : Sl evR W83 (.slice A83 (0 + (N + 1) + 1) c83) (out ++ [⟨1, 0, 0, 0, 0, 0⟩]) := by
          have h1 := ho83
          rw [List.nil_append, show evC out ++ [.int .i64 1, .int .i64 0, .int .i64 0, .int .i64 0, .int .i64 0, .int .i64 0] = evC (out ++ [⟨1, 0, 0, 0, 0, 0⟩]) by rw [evC_app]; rfl] at h1
          exact Sl.own_ev h1 (by rw [List.length_append, HLN.out]; simp)
        have hS := hS83
        refine rt_call (i := 7) (some 84) (by kernel_rfl) rfl rfl (by kernel_rfl) 31 #[.agg #[.slice A ps.length c], .slice A83 (0 + (N + 1) + 1) c83] (by kernel_rfl) (HRT.out _ (out ++ [⟨1, 0, 0, 0, 0, 0⟩]) _ (HB5.out.tr hS) hsl) ?_
        rintro x1 W9 ⟨hb, ⟨hne, -⟩ | ⟨-, ok, rfl, hok⟩⟩
        · exact absurd (HREP.out _ (by rw [List.length_append, HLN.out, List.length_singleton]; omega)) hne
        obtain rfl : ok = false := by
          cases ok with
          | false => rfl
          | true => exact absurd (hok.1 rfl) (HWRONG.out _)
        refine ⟨_, rfl, hS.tr hb, fun hS => ?_⟩
        refine rt_take (i := 8) (some 76) (.tuple #[.bool false, .int .i64 0]) rfl rfl (by kernel_rfl) (by kernel_rfl) (by kernel_rfl) (fun _ _ _ h => h) (by kernel_rfl) hS (fun W _ => by kernel_rfl) ?_
        refine rt_take (i := 9) (some 85) (.bool false) rfl rfl (by kernel_rfl) (by kernel_rfl) (by kernel_rfl) (fun _ _ _ h => h) (by kernel_rfl) hS (fun W _ => by kernel_rfl) ?_
        refine rt_take (i := 10) (some 86) (.int .i64 0) rfl rfl (by kernel_rfl) (by kernel_rfl) (by kernel_rfl) (fun _ _ _ h => h) (by kernel_rfl) hS (fun W _ => by kernel_rfl) ?_
        refine rt_take (i := 11) (some 17) (.bool false) rfl rfl (by kernel_rfl) (by kernel_rfl) (by kernel_rfl) (fun _ _ _ h => h) (by kernel_rfl) hS (fun W _ => by kernel_rfl) ?_
        refine rt_take (i := 12) (some 18) (.int .i64 0) rfl rfl (by kernel_rfl) (by kernel_rfl) (by kernel_rfl) (fun _ _ _ h => h) (by kernel_rfl) hS (fun W _ => by kernel_rfl) ?_
        refine wpAnyH_done (by kernel_rfl) ?_ _
        try simp only [Act.put, List.setIfInBounds_toArray, List.set_cons_zero, List.set_cons_succ]
        have HBZ := Lib.hid hS
        clear hS
        try go_wp2
        go_meet
        exact ⟨rfl, rfl, HBZ⟩
    · skip
      refine st_to (i := 5) (some 82) rfl rfl (by kernel_rfl) (.slice (some ⟨WD.heap.size, 0, none⟩) 1 1) (WD.alloc (.cells #[.int .i64 1, .int .i64 0, .int .i64 0, .int .i64 0, .int .i64 0, .int .i64 0] EVT)) (by kernel_rfl) (hS.al _) ?_
      have hK := Blk.new WD EVT #[.int .i64 1, .int .i64 0, .int .i64 0, .int .i64 0, .int .i64 0, .int .i64 0]
      have hSZ : WD.heap.size < (WD.alloc (.cells #[.int .i64 1, .int .i64 0, .int .i64 0, .int .i64 0, .int .i64 0, .int .i64 0] EVT)).heap.size := by simp only [alloc_size]; omega
      replace hS := hS.al (.cells #[.int .i64 1, .int .i64 0, .int .i64 0, .int .i64 0, .int .i64 0, .int .i64 0] EVT)
      refine st_one (i := 1) (by kernel_rfl) ?_
      generalize hWE : WD.alloc (.cells #[.int .i64 1, .int .i64 0, .int .i64 0, .int .i64 0, .int .i64 0, .int .i64 0] EVT) = WE at *
      refine st_to (i := 1) (some 78) rfl rfl (by kernel_rfl) (.slice (some ⟨WE.heap.size, 0, none⟩) 0 0) (WE.alloc (.cells #[] EVT)) (by kernel_rfl) (hS.al _) ?_
      have hE := World.ownsRow_made (base := WE.heap.size) (e := EVT) (size := 6) WE #[] 0 (Nat.le_refl _) (Nat.zero_le _) rfl
      replace hS := hS.al (.cells #[] EVT)
      refine st_one (i := 3) (by kernel_rfl) ?_
      have hWL : WD.heap.size < WE.heap.size := hSZ
      have hKE := hK.keep ((Bel.rfl_ WE).al (.cells #[] EVT))
      refine st_appAll (i := 3) (some 80) rfl rfl rfl (.tmp 78) (.tmp 79) 27 rfl _ elEV (.slice (some ⟨WE.heap.size, 0, none⟩) 0 0) 0 [] (by kernel_rfl) hE (some ⟨g, 0, none⟩) (N + 1) cap (evC out) (by kernel_rfl) (by rw [evC_len, HLN.out]) (fun h => by cases h) (fun hp => HSRC.out _ hS hp) (evC_one _) (by simp only [maxLen]; omega) (by omega) (by simp only [alloc_size]; omega) ?_
      intro v80 W80 ho80 hg80
      obtain ⟨g80, cap80, rfl, hlo80, -⟩ := own_lies ho80 (by omega)
      have hS80 := bel_app hS hE hg80 (by first | exact hLO2 | omega)
      refine ⟨hS80, ?_⟩
      have ho6 := ho80
      have hK6 : Blk W80 WD.heap.size EVT #[.int .i64 1, .int .i64 0, .int .i64 0, .int .i64 0, .int .i64 0, .int .i64 0] := (hg80.block _ (by rw [alloc_size]; omega) (by simp [Value.ownBlock]; omega)).trans hKE
      replace hS := hS80
      have hLO6 : WE.heap.size ≤ W80.heap.size := by have := hg80.size; simp only [alloc_size] at this ⊢; omega
      have hLO7 : W5.heap.size ≤ WE.heap.size := by omega
      refine st_one (i := 6) (by kernel_rfl) ?_
      refine st_appAll (i := 6) (some 83) rfl rfl rfl (.tmp 80) (.tmp 82) 27 rfl _ elEV (.slice (some ⟨g80, 0, none⟩) (0 + (N + 1)) cap80) (0 + (N + 1)) ([] ++ evC out) (by kernel_rfl) ho6 (some ⟨WD.heap.size, 0, none⟩) 1 1 [.int .i64 1, .int .i64 0, .int .i64 0, .int .i64 0, .int .i64 0, .int .i64 0] (by kernel_rfl) rfl (fun h => by cases h) (fun _ => ⟨_, 0, rfl, fun j u hu => by rw [Nat.zero_add]; exact hK6.cell (by simpa using hu)⟩) (by simp [Value.oneCell']) (by simp only [maxLen]; omega) (by omega) hLO6 ?_
      intro v83 W83 ho83 hg83
      have hS83 := bel_app hS ho6 hg83 hLO7
      refine ⟨hS83, ?_⟩
      obtain ⟨A83, c83, rfl, -⟩ := own_lit ho83
      have hsl : Sl evR W83 (.slice A83 (0 + (N + 1) + 1) c83) (out ++ [⟨1, 0, 0, 0, 0, 0⟩]) := by
        have h1 := ho83
        rw [List.nil_append, show evC out ++ [.int .i64 1, .int .i64 0, .int .i64 0, .int .i64 0, .int .i64 0, .int .i64 0] = evC (out ++ [⟨1, 0, 0, 0, 0, 0⟩]) by rw [evC_app]; rfl] at h1
        exact Sl.own_ev h1 (by rw [List.length_append, HLN.out]; simp)
      have hS := hS83
      refine rt_call (i := 7) (some 84) (by kernel_rfl) rfl rfl (by kernel_rfl) 31 #[.agg #[.slice A ps.length c], .slice A83 (0 + (N + 1) + 1) c83] (by kernel_rfl) (HRT.out _ (out ++ [⟨1, 0, 0, 0, 0, 0⟩]) _ (HB5.out.tr hS) hsl) ?_
      rintro x1 W9 ⟨hb, ⟨hne, -⟩ | ⟨-, ok, rfl, hok⟩⟩
      · exact absurd (HREP.out _ (by rw [List.length_append, HLN.out, List.length_singleton]; omega)) hne
      obtain rfl : ok = false := by
        cases ok with
        | false => rfl
        | true => exact absurd (hok.1 rfl) (HWRONG.out _)
      refine ⟨_, rfl, hS.tr hb, fun hS => ?_⟩
      refine rt_take (i := 8) (some 76) (.tuple #[.bool false, .int .i64 0]) rfl rfl (by kernel_rfl) (by kernel_rfl) (by kernel_rfl) (fun _ _ _ h => h) (by kernel_rfl) hS (fun W _ => by kernel_rfl) ?_
      refine rt_take (i := 9) (some 85) (.bool false) rfl rfl (by kernel_rfl) (by kernel_rfl) (by kernel_rfl) (fun _ _ _ h => h) (by kernel_rfl) hS (fun W _ => by kernel_rfl) ?_
      refine rt_take (i := 10) (some 86) (.int .i64 0) rfl rfl (by kernel_rfl) (by kernel_rfl) (by kernel_rfl) (fun _ _ _ h => h) (by kernel_rfl) hS (fun W _ => by kernel_rfl) ?_
      refine rt_take (i := 11) (some 17) (.bool false) rfl rfl (by kernel_rfl) (by kernel_rfl) (by kernel_rfl) (fun _ _ _ h => h) (by kernel_rfl) hS (fun W _ => by kernel_rfl) ?_
      refine rt_take (i := 12) (some 18) (.int .i64 0) rfl rfl (by kernel_rfl) (by kernel_rfl) (by kernel_rfl) (fun _ _ _ h => h) (by kernel_rfl) hS (fun W _ => by kernel_rfl) ?_
      refine wpAnyH_done (by kernel_rfl) ?_ _
      try simp only [Act.put, List.setIfInBounds_toArray, List.set_cons_zero, List.set_cons_succ]
      have HBZ := Lib.hid hS
      clear hS
      try go_wp2
      go_meet
      exact ⟨rfl, rfl, HBZ⟩
  case rest =>
  obtain ⟨rfl, rfl, HB6⟩ := hcut
  replace f0 := HB6.out.cell f0
  replace f5 := HB6.out.cell f5
  have HOWN6 := Lib.hid (HB6.out.own HOWN5.out)
  have HB7 := Lib.hid (HB5.out.tr HB6.out)
  clear HOWN5 HP5 HB5 HSRC HRT HREP HRIGHT HWRONG HRUN HSL HIN HBT HB34
  rcases HM.out with hme | ⟨rfl, m, gm, cm, hm, hml, rfl, ⟨hmc, hmc0⟩, hsm⟩
  · have dm : (me != 0) = true := by simpa using hme
    clear hme
    go_wp2
    go_ret
    exact ⟨rfl, HB7.out⟩
  by_cases hfm : more < fuel
  · have dl : decide (more < fuel) = true := decide_eq_true hfm
    go_wp2
    go_ret
    exact ⟨rfl, HB7.out⟩
  have dl : decide (more < fuel) = false := decide_eq_false hfm
  obtain ⟨l1, e1, ho1, h71, hv1, hle1, htk1⟩ := HMORE.out m (by omega) hm
  obtain ⟨rfl, rfl⟩ : l0 = l1 ∧ e7 = e1 := by
    have := HOUT.out.symm.trans ho1
    exact ⟨(List.append_inj' this rfl).1, by simpa using (List.append_inj' this rfl).2⟩
  have HSM := Lib.hid (hsm.keep (HBM.out.tr HB6.out))
  have HTK := Lib.hid htk1
  have HV1 := Lib.hid hv1
  have HMM : Hid (m.length ≤ 3600) := Lib.hid hml
  clear hm hml hsm ho1 h71 hv1 htk1 HMORE HM hfm
  skip
  by_cases hv : e7.value = 1
  rotate_left
  · have dv : (e7.value != 1) = true := by simpa using hv
    have hom := HV1.out hv
    have HEQ := Lib.hid (sameEvents_any _ _ out m _ (Sl.own_ev HOWN6.out rfl) HSM.out (by unfold ok64; have := HLN.out; omega) (by unfold ok64; have := HMM.out; omega))
    rw [decide_eq_true hom, HLN.out] at HEQ
    clear hom hv hle1
    go_wp2_with fail
    refine HEQ.out.mono ?_
    rintro r w7 ⟨rfl, b7⟩
    have HB8 := Lib.hid (HB7.out.tr b7)
    clear b7
    go_wp2
    go_ret
    exact ⟨rfl, HB8.out⟩
  have dv : (e7.value != 1) = false := by rw [hv]; rfl
  have hNm : N ≤ m.length := by rw [HN.out]; exact hle1
  have dN : decide ((N : Int) ≤ m.length) = true := decide_eq_true (by omega)
  have HS1 : Hid (Sl evR wc (.slice (some ⟨g, 0, none⟩) N cap) (out.take N)) := Lib.hid (Sl.upto (by have := Sl.own_ev HOWN6.out rfl; exact this) (by have := HLN.out; omega))
  have HS2 : Hid (Sl evR wc (.slice (some ⟨gm, 0, none⟩) N cm) (m.take N)) := Lib.hid (Sl.upto HSM.out hNm)
  have HEQ := Lib.hid (fun W (hb : Bel wc W) => sameEvents_any _ _ (out.take N) (m.take N) W (HS1.out.keep hb) (HS2.out.keep hb) (by unfold ok64; rw [List.length_take]; omega) (by unfold ok64; rw [List.length_take]; omega))
  have hte : out.take N = m.take N := by
    rw [HN.out, ← HTK.out, HOUT.out, List.take_left' rfl]
  rw [decide_eq_true hte] at HEQ
  clear hte hv HS1 HS2 hle1
  go_upto_region 21 with fail
  refine wp_region_held_drew (S := fun W => Bel wc W) (by kernel_rfl) ((Bel.rfl_ wc).dr) (fun hS => ?_)
  refine rt_take (i := 0) (some 111) (.int .i64 N) rfl rfl (by kernel_rfl) (by kernel_rfl) (by kernel_rfl) (fun _ _ _ h => h) (by kernel_rfl) hS (fun W _ => by kernel_rfl) ?_
  refine rt_take (i := 1) (some 112) (.slice (some ⟨gm, 0, none⟩) m.length cm) rfl rfl (by kernel_rfl) (by kernel_rfl) (by kernel_rfl) (fun _ _ _ h => h) (by kernel_rfl) hS (fun W _ => by kernel_rfl) ?_
  refine rt_take (i := 2) (some 113) (.int .i64 m.length) rfl rfl (by kernel_rfl) (by kernel_rfl) (by kernel_rfl) (fun _ _ _ h => h) (by kernel_rfl) hS (fun W _ => by kernel_rfl) ?_
  refine rt_take (i := 3) (some 114) (.bool true) rfl rfl (by kernel_rfl) (by kernel_rfl) (by kernel_rfl) (fun _ _ _ h => h) (by kernel_rfl) hS (fun W _ => rb_leqI (k := N) (l := m.length) rfl (by kernel_rfl) (by kernel_rfl) dN) ?_
  refine rt_take (i := 4) (some 115) (.bool true) rfl rfl (by kernel_rfl) (by kernel_rfl) (by kernel_rfl) (fun _ _ _ h => h) (by kernel_rfl) hS (fun W _ => by kernel_rfl) ?_
  refine rt_take (i := 5) (some 116) (.slice (some ⟨g, 0, none⟩) (N + 1) cap) rfl rfl (by kernel_rfl) (by kernel_rfl) (by kernel_rfl) (fun _ _ _ h => h) (by kernel_rfl) hS (fun W _ => by kernel_rfl) ?_
  refine rt_take (i := 6) (some 117) (.int .i64 N) rfl rfl (by kernel_rfl) (by kernel_rfl) (by kernel_rfl) (fun _ _ _ h => h) (by kernel_rfl) hS (fun W _ => by kernel_rfl) ?_
  refine rt_take (i := 7) (some 118) (.slice (some ⟨g, 0, none⟩) N cap) rfl rfl (by kernel_rfl) (by kernel_rfl) (by kernel_rfl) (fun _ _ _ h => h) (by kernel_rfl) hS (fun W _ => rs_upto (b := g) (n := N + 1) (c := cap) (j := N) rfl (by kernel_rfl) (by kernel_rfl) (by omega) (by omega) (by omega)) ?_
  refine rt_take (i := 8) (some 119) (.slice (some ⟨gm, 0, none⟩) m.length cm) rfl rfl (by kernel_rfl) (by kernel_rfl) (by kernel_rfl) (fun _ _ _ h => h) (by kernel_rfl) hS (fun W _ => by kernel_rfl) ?_
  refine rt_take (i := 9) (some 120) (.int .i64 N) rfl rfl (by kernel_rfl) (by kernel_rfl) (by kernel_rfl) (fun _ _ _ h => h) (by kernel_rfl) hS (fun W _ => by kernel_rfl) ?_
  refine rt_take (i := 10) (some 121) (.slice (some ⟨gm, 0, none⟩) N cm) rfl rfl (by kernel_rfl) (by kernel_rfl) (by kernel_rfl) (fun _ _ _ h => h) (by kernel_rfl) hS (fun W _ => rs_upto (b := gm) (n := m.length) (c := cm) (j := N) rfl (by kernel_rfl) (by kernel_rfl) (by omega) (by omega) (by omega)) ?_
  refine rt_call (i := 11) (some 122) (by kernel_rfl) rfl rfl (by kernel_rfl) 33 #[.slice (some ⟨g, 0, none⟩) N cap, .slice (some ⟨gm, 0, none⟩) N cm] (by kernel_rfl) (HEQ.out _ hS) ?_
  rintro x1 W9 ⟨rfl, hb⟩
  refine ⟨_, rfl, hS.tr hb, fun hS => ?_⟩
  refine rt_take (i := 12) (some 123) (.bool true) rfl rfl (by kernel_rfl) (by kernel_rfl) (by kernel_rfl) (fun _ _ _ h => h) (by kernel_rfl) hS (fun W _ => by kernel_rfl) ?_
  refine rt_take (i := 13) (some 10) (.bool true) rfl rfl (by kernel_rfl) (by kernel_rfl) (by kernel_rfl) (fun _ _ _ h => h) (by kernel_rfl) hS (fun W _ => by kernel_rfl) ?_
  refine wpAnyH_done (by kernel_rfl) ?_ _
  try simp only [Act.put, List.setIfInBounds_toArray, List.set_cons_zero, List.set_cons_succ]
  have HB8 := Lib.hid (HB7.out.tr hS)
  clear hS
  go_wp2
  go_ret
  exact ⟨rfl, HB8.out⟩
end Go.Proofs.Ytgkpplbomciehaa
