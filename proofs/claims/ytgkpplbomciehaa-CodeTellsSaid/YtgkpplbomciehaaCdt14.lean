/- How many commands there are, by the program: walked. Are there not too many commands, nor too deep, by the program; no expression: walked. Each lemma states its own conditions. -/
import Derived.Test.YtgkpplbomciehaaCdt13
namespace Go.Proofs.Ytgkpplbomciehaa
open Go.RowKit
theorem grown_one (w : World) (b i : Nat) (u : Value) : w.grownBy (w.setCell ⟨b, i, none⟩ u) (some b) :=
  ⟨rfl, rfl, rfl, by simp, fun k _ hk => heap_setCell_other w _ k u (fun e => hk (by rw [e]))⟩
set_option maxRecDepth 20000 in
theorem many1_does (w0 ws : World) (R : Nat) : Does 156 #[.pointer (some ⟨R, 0, none⟩)] 3 fMany OkM w0 ws R := by
  intro x d s cs W hok hcs _ hb
  obtain ⟨hs0, hs1, -⟩ := hok
  obtain ⟨vi, ve, va, vt, vs, rfl, -⟩ := pcCells hcs
  generalize x.kind = xk at *
  generalize x.var = xv at *
  generalize x.fn = xf at *
  generalize x.index.kind = ik at *
  generalize x.index.n = iN at *
  generalize x.expr.kind = ek at *
  generalize x.expr.n = eN at *
  have HB := Lib.hid (hb.keep ((Bel.rfl_ W).al (.cells #[.int .i64 xk, .int .i64 xv, .int .i64 xf, .int .i64 ik, .int .i64 iN, vi, .int .i64 ek, .int .i64 eN, ve, va, vt, vs] 120)))
  have HG : Hid (W.grownBy (W.alloc (.cells #[.int .i64 xk, .int .i64 xv, .int .i64 xf, .int .i64 ik, .int .i64 iN, vi, .int .i64 ek, .int .i64 eN, ve, va, vt, vs] 120)) (some R)) := Lib.hid (((Bel.rfl_ W).al _).grown _)
  have x0 := HB.out.cell (i := 0) (v := .int .i64 s) rfl
  have f0 := HB.out.frozen 0
  clear hb hcs
  show Calls Try.prog 156 #[.agg #[.int .i64 xk, .int .i64 xv, .int .i64 xf, .int .i64 ik, .int .i64 iN, vi, .int .i64 ek, .int .i64 eN, ve, va, vt, vs], .int .i64 d, .pointer (some ⟨R, 0, none⟩)] W _
  go_enter Try.func156, Try.ntmps156
  go_wp2
  go_ret
  exact ⟨rfl, HG.out.trans (grown_one _ _ _ _), HB.out.set_ 0 _⟩
set_option maxRecDepth 20000 in
set_option maxHeartbeats 1000000 in
theorem few1_does (w0 ws : World) (R : Nat) : Does 138 #[.pointer (some ⟨R, 0, none⟩)] 3 fFew OkM w0 ws R := by
  intro x d s cs W hok hcs _ hb
  obtain ⟨hs0, hs1, -⟩ := hok
  obtain ⟨vi, ve, va, vt, vs, rfl, -⟩ := pcCells hcs
  generalize x.kind = xk at *
  generalize x.var = xv at *
  generalize x.fn = xf at *
  generalize x.index.kind = ik at *
  generalize x.index.n = iN at *
  generalize x.expr.kind = ek at *
  generalize x.expr.n = eN at *
  have HB := Lib.hid (hb.keep ((Bel.rfl_ W).al (.cells #[.int .i64 xk, .int .i64 xv, .int .i64 xf, .int .i64 ik, .int .i64 iN, vi, .int .i64 ek, .int .i64 eN, ve, va, vt, vs] 120)))
  have HG : Hid (W.grownBy (W.alloc (.cells #[.int .i64 xk, .int .i64 xv, .int .i64 xf, .int .i64 ik, .int .i64 iN, vi, .int .i64 ek, .int .i64 eN, ve, va, vt, vs] 120)) (some R)) := Lib.hid (((Bel.rfl_ W).al _).grown _)
  have x0 := HB.out.cell (i := 0) (v := .int .i64 s) rfl
  have f0 := HB.out.frozen 0
  clear hb hcs
  show Calls Try.prog 138 #[.agg #[.int .i64 xk, .int .i64 xv, .int .i64 xf, .int .i64 ik, .int .i64 iN, vi, .int .i64 ek, .int .i64 eN, ve, va, vt, vs], .int .i64 d, .pointer (some ⟨R, 0, none⟩)] W _
  by_cases h40 : s + 1 ≤ 40
  · have d40 : decide (s + 1 ≤ 40) = true := decide_eq_true h40
    by_cases h5 : d ≤ 5
    · have d5 : decide (d ≤ 5) = true := decide_eq_true h5
      have HR : Hid (fFew s x d = (s + 1, true)) := Lib.hid (by unfold fFew; rw [d40, d5]; rfl)
      generalize fFew s x d = T at *
      go_enter Try.func138, Try.ntmps138
      go_wp2
      go_ret
      exact ⟨by rw [HR.out]; rfl, HG.out.trans (grown_one _ _ _ _), by rw [HR.out]; exact HB.out.set_ 0 _⟩
    · have d5 : decide (d ≤ 5) = false := decide_eq_false h5
      have HR : Hid (fFew s x d = (s + 1, false)) := Lib.hid (by unfold fFew; rw [d40, d5]; rfl)
      generalize fFew s x d = T at *
      go_enter Try.func138, Try.ntmps138
      go_wp2
      go_ret
      exact ⟨by rw [HR.out]; rfl, HG.out.trans (grown_one _ _ _ _), by rw [HR.out]; exact HB.out.set_ 0 _⟩
  · have d40 : decide (s + 1 ≤ 40) = false := decide_eq_false h40
    have HR : Hid (fFew s x d = (s + 1, false)) := Lib.hid (by unfold fFew; rw [d40]; rfl)
    generalize fFew s x d = T at *
    go_enter Try.func138, Try.ntmps138
    go_wp2
    go_ret
    exact ⟨by rw [HR.out]; rfl, HG.out.trans (grown_one _ _ _ _), by rw [HR.out]; exact HB.out.set_ 0 _⟩
theorem grownTo {w w1 w2 : World} {R : Nat} (h : Bel w w1) (hR : w.heap.size ≤ R) (hg : w1.grownBy w2 (some R)) : Bel w w2 :=
  Below.grown h hg h.size (fun k hk => by have : R = k := Option.some.inj hk; omega)
set_option maxRecDepth 20000 in
theorem many_any (l : List PC) (v : Value) (w : World) (h : Sl pcR w v l) (hf : fineP l 1 = true) (hc : cntP l ≤ 1000) :
    Calls Try.prog 143 #[v] w fun r w' => r = .returned (.int .i64 (cntP l)) ∧ Bel w w' := by
  have HOK := Lib.hid (manyL_ok l 1 0 hf (by decide) (by decide) (by omega))
  have HWK := Lib.hid (manyL_walk l 1 0)
  have HW := Lib.hid (fun W R (hR : w.heap.size ≤ R) (hb : Bel w W) (hbk : Blk W R 3 #[.int .i64 0]) => walk_anyM (.pointer (some ⟨R, 0, none⟩)) 3 fMany OkM (fun _ _ _ h => ⟨h.2.2.1, h.2.2.2⟩) w W R hR hb (many1_does w W R) l 1 0 v W HOK.out h (World.grownBy.refl _ _) hbk)
  have HK := Lib.hid (Blk.new w 3 #[.int .i64 0])
  obtain ⟨A, c, rfl, -⟩ := sl_lit h
  clear h hf
  go_enter Try.func143, Try.ntmps143
  go_wp2_with fail
  refine (HW.out _ _ (Nat.le_refl _) ((Bel.rfl_ w).al _) HK.out).mono ?_
  rintro r w1 ⟨rfl, hg, hb⟩
  rw [HWK.out] at hb
  have x0 := hb.cell (i := 0) rfl
  have HB := Lib.hid (grownTo ((Bel.rfl_ w).al (.cells #[.int .i64 0] 3)) (Nat.le_refl _) hg)
  clear hg hb
  go_wp2
  go_ret
  exact ⟨by simp, HB.out⟩
/-- functions with not too many commands, so many counted already -/
def fewFs (l : List PF) (s : Int) : Bool := l.all (fun f => fineP f.cmds 1) && decide (s + ((l.map fun f => cntP f.cmds).sum : Nat) ≤ 40)
theorem fewFs_drop {l : List PF} {k : Nat} {x : PF} (hx : l[k]? = some x) (s : Int) : fewFs (l.drop k) s = (fineP x.cmds 1 && fewFs (l.drop (k + 1)) (s + cntP x.cmds)) := by
  obtain ⟨hl, rfl⟩ := List.getElem?_eq_some_iff.1 hx
  rw [List.drop_eq_getElem_cons hl]
  unfold fewFs
  rw [List.all_cons, List.map_cons, List.sum_cons, Bool.and_assoc]
  congr 2
  exact decide_eq_decide.2 (by omega)
theorem fewFs_end {l : List PF} {k : Nat} (h : l.length ≤ k) {s : Int} (hs : s ≤ 40) : fewFs (l.drop k) s = true := by
  rw [List.drop_eq_nil_of_le h]
  unfold fewFs
  simp
  omega
theorem fewFs_great {l : List PF} {s : Int} (hs : 40 < s) : fewFs l s = false := by
  unfold fewFs
  rw [Bool.and_eq_false_iff]
  exact Or.inr (decide_eq_false (by omega))
set_option maxRecDepth 20000 in
set_option maxHeartbeats 4000000 in
theorem few_any (l : List PF) (v : Value) (w : World) (h : Sl pfR w v l) : Calls Try.prog 97 #[.agg #[v]] w fun r w' => r = .returned (.bool (fewFs l 0)) ∧ Bel w w' := by
  have HSL := Lib.hid h
  have HW := Lib.hid (fun (x : PF) s vc W ws R (hR : w.heap.size ≤ R) (hb : Bel w ws) (hok : okwL fFew OkM x.cmds 1 s) (hsl : Sl pcR w vc x.cmds) (hg : ws.grownBy W (some R)) (hbk : Blk W R 3 #[.int .i64 s]) => walk_anyF (.pointer (some ⟨R, 0, none⟩)) 3 fFew OkM (fun _ _ _ h => ⟨h.2.2.1, h.2.2.2⟩) w ws R hR hb (few1_does w ws R) x.cmds 1 s vc W hok hsl hg hbk)
  have HT : Hid (fewFs (l.drop 0) 0 = fewFs l 0) := Lib.hid rfl
  generalize fewFs l 0 = T at *
  obtain ⟨A, c, rfl, hll⟩ := sl_lit h
  have HK0 := Lib.hid (Blk.new (w.alloc (.cells #[.slice A l.length c] 40)) 3 #[.int .i64 0])
  have HB0 := Lib.hid (((Bel.rfl_ w).al (.cells #[.slice A l.length c] 40)).al (.cells #[.int .i64 0] 3))
  have hRR : (w.alloc (.cells #[.slice A l.length c] 40)).heap.size = w.heap.size + 1 := by simp
  rw [hRR] at HK0
  clear h hRR
  go_enter Try.func97, Try.ntmps97
  go_wp2
  generalize hWS : (w.alloc (.cells #[.slice A l.length c] 40)).alloc (.cells #[.int .i64 0] 3) = ws at *
  go_loopw [10] (fun i wr => ∃ (j : Nat) (s : Int), i = .int .i64 j ∧ j ≤ l.length ∧ 0 ≤ s ∧ s ≤ 40 ∧ Hid (fewFs (l.drop j) s = T) ∧ Hid (ws.grownBy wr (some (w.heap.size + 1))) ∧ Hid (Blk wr (w.heap.size + 1) 3 #[.int .i64 s])) (fun i _ => l.length - (intOf i).toNat)
  case atStart => exact ⟨0, 0, rfl, Nat.zero_le _, by decide, by decide, HT, World.grownBy.refl _ _, HK0⟩
  case round =>
    obtain ⟨j, s, rfl, hj, hs0, hs1, HS, HG, HC⟩ := hrel
    obtain ⟨WO, hWO⟩ : ∃ W, W = wr := ⟨_, rfl⟩
    subst hWO
    have HB := Lib.hid (grownTo HB0.out (Nat.le_succ _) HG.out)
    clear HT HK0
    by_cases hlt : j < l.length
    rotate_left
    · have hdd : decide ((j : Int) < l.length) = false := decide_eq_false (by omega)
      have HR : Hid (true = T) := Lib.hid (by rw [← HS.out, fewFs_end (by omega) hs1])
      go_wp2
      go_ret
      exact ⟨by rw [← HR.out]; rfl, HB.out⟩
    have hdd : decide ((j : Int) < l.length) = true := decide_eq_true (by omega)
    obtain ⟨x, hx⟩ : ∃ x, l[j]? = some x := ⟨_, List.getElem?_eq_getElem hlt⟩
    obtain ⟨b, o, cs, rfl, hcs, hca⟩ := HSL.out.elem hx
    have HT : Hid ((fineP x.cmds 1 && fewFs (l.drop (j + 1)) (s + cntP x.cmds)) = T) := Lib.hid (by rw [← HS.out, fewFs_drop hx])
    have HF := Lib.hid (fewL_walk x.cmds 1 s hs0 hs1 (by decide) (by decide))
    have i0 : (0 : Int) ≤ j := by omega
    have i1 : (j : Int) < l.length := by omega
    have HCS : Hid (PFR w x cs) := Lib.hid hcs
    have HCA := Lib.hid (hca.keep HB.out)
    have hRK := HC.out.lt
    clear hcs hca hx HS
    go_upto_region 5 with (refine copyPF (.tmp 12) (.tmp 5) (.tmp 13) rfl rfl rfl rfl rfl rfl b (o + j * 6) (by exact rfl) cs HCA.out HCS.out (by exact rfl) (by exact rfl) ?_)
    have HX : Hid (ws.grownBy (WO.alloc (.cells cs.toArray 78)) (some (w.heap.size + 1))) := Lib.hid (HG.out.trans (((Bel.rfl_ WO).al (.cells cs.toArray 78)).grown _))
    have HK := Lib.hid (Blk.new WO 78 cs.toArray)
    replace HC := Lib.hid (HC.out.keep ((Bel.rfl_ WO).al (.cells cs.toArray 78)))
    obtain ⟨vz, vc, vr, rfl, -, hsc, -⟩ := HCS.out
    generalize hW1 : WO.alloc _ = W1 at *
    clear hW1 HCS HCA
    generalize WO.heap.size = K at *
    obtain ⟨Ac, cc, rfl, hlc⟩ := sl_lit hsc
    have HSC := Lib.hid hsc
    have k2 := HK.out.cell (i := 2) (v := .slice Ac x.cmds.length cc) rfl
    clear hsc HK hRK
    generalize x.params = xp at *
    generalize x.result.kind = rk at *
    generalize x.result.n = rn at *
    go_wp2_with fail
    refine (HW.out x s _ _ ws _ (Nat.le_succ _) HB0.out HF.out.2 HSC.out HX.out HC.out).mono ?_
    rintro r w3 ⟨rfl, hg, hb⟩
    have HX3 := Lib.hid (HX.out.trans hg)
    have HB3 := Lib.hid (grownTo HB0.out (Nat.le_succ _) HX3.out)
    have HC3 := Lib.hid hb
    obtain ⟨f1, f2, f3, f4⟩ := HF.out.1
    clear hg hb k2
    rcases hfs : walkL fFew x.cmds 1 s with ⟨s1, b1⟩
    rw [hfs] at HC3 f1 f2 f3 f4
    dsimp only at HC3 f1 f2 f3 f4
    cases b1 with
    | false =>
      have HR : Hid (false = T) := Lib.hid (by
        rw [← HT.out]
        by_cases hf : fineP x.cmds 1 = true
        · have : ¬ (s + cntP x.cmds ≤ 40) := fun h => absurd (f1.2 ⟨hf, h⟩) (by decide)
          rw [fewFs_great (by omega), Bool.and_false]
        · rw [Bool.eq_false_iff.2 hf, Bool.false_and])
      clear f1 f2 f3 f4 hfs
      go_wp2
      go_ret
      exact ⟨by rw [← HR.out]; rfl, HB3.out⟩
    | true =>
      obtain ⟨g1, g2⟩ := f1.1 rfl
      obtain rfl := f2 rfl
      have HR : Hid (fewFs (l.drop (j + 1)) (s + cntP x.cmds) = T) := Lib.hid (by rw [← HT.out, g1, Bool.true_and])
      clear f1 f2 hfs g1
      go_wp2
      go_roundw
      case rel => exact ⟨j + 1, _, by go_num, by omega, by omega, g2, HR, HX3, HC3⟩
      case measure => simp [intOf]; omega
set_option maxRecDepth 20000 in
theorem none_any (e : PE) (val : Value) (w : World) (h : PEV w e val) : Calls Try.prog 142 #[val] w fun r w' => r = .returned (.bool e.none_) ∧ Bel w w' := by
  obtain ⟨v, rfl, hs⟩ := h
  obtain ⟨A, c, rfl, hl⟩ := sl_lit hs
  have HB : Hid (Bel w (w.alloc (.cells #[.int .i64 e.kind, .int .i64 e.n, .slice A e.args.length c] 47))) := Lib.hid ((Bel.rfl_ w).al _)
  have HR : Hid (e.none_ = (decide (e.kind = 0) && decide (e.n = 0) && decide (e.args.length = 0))) := Lib.hid rfl
  clear hs
  generalize e.none_ = T at *
  generalize e.kind = k at *
  generalize e.n = n at *
  generalize e.args.length = L at *
  by_cases h1 : k = 0
  · subst h1
    by_cases h2 : n = 0
    · subst h2
      by_cases h3 : L = 0
      · subst h3
        go_enter Try.func142, Try.ntmps142
        go_wp2
        go_ret
        exact ⟨by rw [HR.out]; rfl, HB.out⟩
      · have d3 : ((L : Int) == 0) = false := by simpa using h3
        have e3 : decide (L = 0) = false := decide_eq_false h3
        rw [e3] at HR
        go_enter Try.func142, Try.ntmps142
        go_wp2
        go_ret
        exact ⟨by rw [HR.out]; rfl, HB.out⟩
    · have d2 : (n == 0) = false := by simpa using h2
      have e2 : decide (n = 0) = false := decide_eq_false h2
      rw [e2, Bool.and_false, Bool.false_and] at HR
      go_enter Try.func142, Try.ntmps142
      go_wp2
      go_ret
      exact ⟨by rw [HR.out]; rfl, HB.out⟩
  · have d1 : (k == 0) = false := by simpa using h1
    have e1 : decide (k = 0) = false := decide_eq_false h1
    rw [e1, Bool.false_and, Bool.false_and] at HR
    go_enter Try.func142, Try.ntmps142
    go_wp2
    go_ret
    exact ⟨by rw [HR.out]; rfl, HB.out⟩
theorem has_any (k : Int) (w : World) : Calls Try.prog 154 #[.int .i64 k] w fun r w' => r = .returned (.tuple #[.bool (decide (k = 2)), .bool (decide (k ≠ 3 ∧ k ≠ 4))]) ∧ w = w' := by
  by_cases h3 : k = 3
  · subst h3
    go_enter Try.func154, Try.ntmps154
    go_wp2
    go_ret2
    exact ⟨rfl, rfl⟩
  by_cases h4 : k = 4
  · subst h4
    go_enter Try.func154, Try.ntmps154
    go_wp2
    go_ret2
    exact ⟨rfl, rfl⟩
  have d3 : (k != 3) = true := by simpa using h3
  have d4 : (k != 4) = true := by simpa using h4
  have HR : Hid (decide (k ≠ 3 ∧ k ≠ 4) = true) := Lib.hid (decide_eq_true ⟨h3, h4⟩)
  by_cases h2 : k = 2
  · subst h2
    go_enter Try.func154, Try.ntmps154
    go_wp2
    go_ret2
    exact ⟨rfl, rfl⟩
  · have d2 : (k == 2) = false := by simpa using h2
    have HR2 : Hid (decide (k = 2) = false) := Lib.hid (decide_eq_false h2)
    generalize decide (k ≠ 3 ∧ k ≠ 4) = X at *
    generalize decide (k = 2) = Y at *
    go_enter Try.func154, Try.ntmps154
    go_wp2
    go_ret2
    exact ⟨by rw [HR.out, HR2.out]; rfl, rfl⟩
end Go.Proofs.Ytgkpplbomciehaa
