/- Where a run of commands stands, in memory and in plain words. A list of commands: walked. Each lemma states its own conditions. -/
import Derived.Test.YtgkpplbomciehaaTmo28
namespace Go.Proofs.Ytgkpplbomciehaa
open Go.RowKit
namespace Mc
theorem writes_steps (a : Int) : ∀ (l : List Int) (i : Nat) (m : Mc), (writes a l i m).steps = m.steps
  | [], _, _ => rfl
  | n :: l, i, m => by rw [writes, writes_steps a l]; rfl
theorem call_steps (ps : List PF) (m : Mc) (x : PC) (f : Fr) (rest : List Fr) : (call ps m x f rest).steps = m.steps := by
  unfold call
  split
  · rfl
  split
  · rfl
  · rw [writes_steps]; rfl
theorem back_steps (ps : List PF) (m : Mc) (f : Fr) (rest : List Fr) : (m.back ps f rest).steps = m.steps := by
  unfold back
  split
  · rfl
  split
  · rfl
  split
  · rfl
  · rfl
theorem cmd_steps (m : Mc) (x : PC) (a : Int) (f : Fr) : (cmd m x a f).steps = m.steps := by
  unfold cmd
  repeat' split
  all_goals rfl
theorem do_steps (ps : List PF) (fuel : Int) (m : Mc) : m.steps ≤ (m.do_ ps fuel).steps := by
  unfold do_
  split
  · exact Int.le_refl _
  split
  · exact Int.le_refl _
  · rw [back_steps]; exact Int.le_refl _
  · split
    · exact Int.le_refl _
    split
    · rw [call_steps]; exact Int.le_add_of_nonneg_right (by decide)
    · rw [cmd_steps]; exact Int.le_add_of_nonneg_right (by decide)
theorem iter_steps (ps : List PF) (fuel : Int) : ∀ (n : Nat) (m : Mc), m.steps ≤ (m.iter ps fuel n).steps
  | 0, m => Int.le_refl _
  | n + 1, m => by
    refine Int.le_trans ?_ (iter_steps ps fuel n _)
    unfold go
    split
    · exact Int.le_refl _
    · exact do_steps ps fuel m
end Mc
theorem Reach.steps {ps : List PF} {fuel : Int} {m m' : Mc} (h : Reach ps fuel m m') : m.steps ≤ m'.steps := by
  obtain ⟨n, rfl⟩ := h
  exact Mc.iter_steps ps fuel n m
/-- what a run is told ahead of it: programs, fuel, the runner -/
structure Env where
  w0 : World
  ps : List PF
  fuel : Int
  fs : FS
  L : Nat
  r : Nat
/-- the runner is a machine -/
def RunM (E : Env) (w : World) (σ : Mc) (deep : Int) : Prop := RnM E.w0 E.ps E.fuel E.fs E.L E.r w σ.inp σ.steps σ.made deep σ.out
/-- a frame of the program's: where it lies, its number, its function; the frames that wait -/
structure Spot where
  lo : Nat
  fb : Nat
  num : Int
  fn : Int
  rest : List Fr
/-- a machine that goes on, its tasks -/
def AtS (E : Env) (p : Spot) (T : List Tk) (σ : Mc) (w : World) : Prop :=
  ∃ F, Good E.ps E.fuel σ F p.rest ∧ F.num = p.num ∧ F.fn = p.fn ∧ F.tasks = T ∧ FrM w p.lo p.fb p.num F.at_ F.vars ∧ RunM E w σ (p.rest.length + 1)
/-- where a list of commands ends -/
def Res (E : Env) (p : Spot) (T : List Tk) (σ : Mc) (w : World) (b : Bool) (w' : World) : Prop :=
  ∃ σ', Reach E.ps E.fuel σ σ' ∧ Stays E.w0.heap.size p.lo w w' ∧ (b = true → AtS E p T σ' w') ∧ (b = false → σ'.over = true ∧ ∃ d, RunM E w' σ' d)
theorem Res.on {E : Env} {p : Spot} {T : List Tk} {σ σ' : Mc} {w w' : World} (h1 : Reach E.ps E.fuel σ σ') (h2 : Stays E.w0.heap.size p.lo w w') (h3 : AtS E p T σ' w') : Res E p T σ w true w' := ⟨σ', h1, h2, (fun _ => h3), (fun h => by cases h)⟩
theorem Res.over {E : Env} {p : Spot} {T : List Tk} {σ σ' : Mc} {w w' : World} {d : Int} (h1 : Reach E.ps E.fuel σ σ') (h2 : Stays E.w0.heap.size p.lo w w') (h3 : σ'.over = true) (h4 : RunM E w' σ' d) : Res E p T σ w false w' := ⟨σ', h1, h2, (fun h => by cases h), fun _ => ⟨h3, d, h4⟩⟩
theorem Res.after {E : Env} {p : Spot} {T : List Tk} {σ σ1 : Mc} {w w1 w2 : World} {b : Bool} (h1 : Reach E.ps E.fuel σ σ1) (h2 : Stays E.w0.heap.size p.lo w w1) (h : Res E p T σ1 w1 b w2) : Res E p T σ w b w2 := by
  obtain ⟨σ', g1, g2, g3, g4⟩ := h
  exact ⟨σ', h1.tr g1, h2.tr g2, g3, g4⟩
theorem AtS.keep {E : Env} {p : Spot} {T : List Tk} {σ : Mc} {w W : World} (h : AtS E p T σ w) (hb : Bel w W) : AtS E p T σ W := by
  obtain ⟨F, h1, h2, h3, h4, h5, h6⟩ := h
  exact ⟨F, h1, h2, h3, h4, h5.keep hb, RnM.keep h6 hb⟩
theorem AtS.bel {E : Env} {p : Spot} {T : List Tk} {σ : Mc} {w : World} (h : AtS E p T σ w) : Bel E.w0 w := by
  obtain ⟨F, h1, h2, h3, h4, h5, h6⟩ := h
  exact RnM.bel h6
/-- lists of commands run as the machine does, so much fuel being left -/
def AllIs (E : Env) (N : Nat) : Prop := ∀ (p : Spot) (l : List PC) (at_ : Int) (T : List Tk) (σ : Mc) (w : World) (vl : Value), AtS E p (pushT l at_ ++ T) σ w → E.L ≤ p.lo → Sl pcR E.w0 vl l → E.fuel - σ.steps ≤ N → 0 ≤ at_ → at_ ≤ 1000 →
  Calls Try.prog 114 #[.pointer (some ⟨E.r, 0, none⟩), .pointer (some ⟨p.fb, 0, none⟩), vl, .int .i64 at_] w fun y w' => ∃ b, y = .returned (.bool b) ∧ Res E p T σ w b w'
/-- .. one command -/
def OneIs (E : Env) (N : Nat) : Prop := ∀ (p : Spot) (x : PC) (at_ : Int) (T : List Tk) (σ : Mc) (w : World) (val : Value), AtS E p (.cmd x at_ :: T) σ w → E.L ≤ p.lo → PCV E.w0 x val → E.fuel - σ.steps ≤ N →
  Calls Try.prog 147 #[.pointer (some ⟨E.r, 0, none⟩), .pointer (some ⟨p.fb, 0, none⟩), val, .int .i64 at_] w fun y w' => ∃ b, y = .returned (.bool b) ∧ Res E p T σ w b w'
/-- a command that is next is right -/
theorem AtS.ok {E : Env} {p : Spot} {T : List Tk} {x : PC} {a : Int} {σ : Mc} {w : World} (h : AtS E p (.cmd x a :: T) σ w) : ∃ z, CmdOk E.ps z x a ∧ TsOk E.ps z T := by
  obtain ⟨F, h1, h2, h3, h4, h5, h6⟩ := h
  obtain ⟨g, -, -, -, ht, -⟩ := h1.ok
  rw [h4] at ht
  exact ⟨g.sizes, ht⟩
theorem pushT_drop {l : List PC} {j : Nat} {x : PC} (hx : l[j]? = some x) (a : Int) : pushT (l.drop j) a = .cmd x a :: pushT (l.drop (j + 1)) (a + x.cnt) := by
  obtain ⟨hl, rfl⟩ := List.getElem?_eq_some_iff.1 hx
  rw [List.drop_eq_getElem_cons hl, pushT]
section
variable {o : Oper} {ρ : Operand → Value} {W : World} {x y : Operand} {t2 : TypeId} {k l m : Int}
theorem rb_addI (ho : o.op = .binOp .add 3 x y t2) (hx : ρ x = .int .i64 k) (hy : ρ y = .int .i64 l) (h0 : 0 ≤ k) (h1 : k ≤ 1000000) (h2 : 0 ≤ l) (h3 : l ≤ 1000000) (hm : k + l = m) : (execOp ρ o).run Try.prog W = .ok (.value (.int .i64 m)) W := by
  subst hm
  have hw : IntKind.i64.wrap (k + l) = k + l := by rw [IntKind.wrap_i64]; omega
  simp [execOp, ho, hx, hy, hw, go_sem]
end
set_option maxRecDepth 20000 in
set_option maxHeartbeats 8000000 in
theorem all_of (E : Env) (hp : Prog E.ps) (N : Nat) (HONE : OneIs E N) : AllIs E N := by
  intro p l at0 T σ0 w vl hA hL hvl hN h0 h1
  have HON := Lib.hid HONE
  have HSL := Lib.hid hvl
  have HLL := Lib.hid hL
  have HS : Hid (E.fuel - σ0.steps ≤ N) := Lib.hid hN
  have HA0 := Lib.hid hA
  have HPR := Lib.hid hp
  obtain ⟨A, c, rfl, hll⟩ := sl_lit hvl
  clear hvl hL hN hA HONE hp
  go_enter Try.func114, Try.ntmps114
  go_wp2
  go_loopw [3, 13] (fun a i wr => ∃ (j : Nat) (at_ : Int) (σ : Mc), i = .int .i64 j ∧ j ≤ l.length ∧ a = .int .i64 at_ ∧ 0 ≤ at_ ∧ at_ ≤ 1000 ∧ Hid (Reach E.ps E.fuel σ0 σ) ∧ Hid (AtS E p (pushT (l.drop j) at_ ++ T) σ wr) ∧ Hid (Stays E.w0.heap.size p.lo w wr)) (fun _ i _ => l.length - (intOf i).toNat)
  case atStart => exact ⟨0, at0, σ0, rfl, Nat.zero_le _, rfl, h0, h1, Lib.hid (Reach.rfl_ _), HA0, Lib.hid (Stays.rfl_ _ _ _)⟩
  case round =>
    obtain ⟨j, at_, σ, rfl, hj, rfl, ha0, ha1, HR, HA, HST⟩ := hrel
    obtain ⟨WO, hWO⟩ : ∃ W, W = wr := ⟨_, rfl⟩
    subst hWO
    clear HA0 h0 h1
    by_cases hlt : j < l.length
    rotate_left
    · have hdd : decide ((j : Int) < l.length) = false := decide_eq_false (by omega)
      have hjl : j = l.length := by omega
      subst hjl
      have HE : Hid (AtS E p T σ WO) := Lib.hid (by have := HA.out; rw [List.drop_length] at this; exact this)
      clear HA
      go_wp2
      go_ret
      exact ⟨true, rfl, Res.on HR.out HST.out HE.out⟩
    have hdd : decide ((j : Int) < l.length) = true := decide_eq_true (by omega)
    obtain ⟨x, hx⟩ : ∃ x, l[j]? = some x := ⟨_, List.getElem?_eq_getElem hlt⟩
    obtain ⟨b, o, cs, rfl, hcs, hca⟩ := HSL.out.elem hx
    have HA1 : Hid (AtS E p (.cmd x at_ :: (pushT (l.drop (j + 1)) (at_ + x.cnt) ++ T)) σ WO) := Lib.hid (by have := HA.out; rw [pushT_drop hx] at this; exact this)
    obtain ⟨z, hok, -⟩ := HA1.out.ok
    obtain ⟨hk0, hk1, hfin, -⟩ := id hok
    have hcn := PC.cnt_eq x
    have HB := Lib.hid HA1.out.bel
    have HSTS := Lib.hid HR.out.steps
    have HX0 : Hid (PCV E.w0 x (.agg cs.toArray)) := Lib.hid ⟨cs, hcs, rfl⟩
    have i0 : (0 : Int) ≤ j := by omega
    have i1 : (j : Int) < l.length := by omega
    have HFT := Lib.hid hok.thn
    have HFE := Lib.hid hok.els
    have HCS : Hid (PCR E.w0 x cs) := Lib.hid hcs
    have HCA := Lib.hid (hca.keep HB.out)
    have hct : cntP x.thn ≤ 1000 := by omega
    have hce : cntP x.els ≤ 1000 := by omega
    have hNN : E.fuel - σ.steps ≤ N := by have := HSTS.out; have := HS.out; omega
    clear hcs hca hok hfin HA
    go_upto_region 4 with (refine copyPC (.tmp 15) (.tmp 10) (.tmp 16) rfl rfl rfl rfl rfl rfl b (o + j * 12) (by exact rfl) cs HCA.out HCS.out (by exact rfl) (by exact rfl) ?_)
    have HBX : Hid (Bel WO (WO.alloc (.cells cs.toArray CMT))) := Lib.hid ((Bel.rfl_ WO).al _)
    have HK := Lib.hid (Blk.new WO CMT cs.toArray)
    have HA2 := Lib.hid (HA1.out.keep HBX.out)
    have HST2 := Lib.hid (HST.out.tr (Stays.bel HBX.out HB.out.size))
    have HON1 := Lib.hid (HON.out p x at_ _ σ _ (.agg cs.toArray) HA2.out HLL.out HX0.out hNN)
    obtain ⟨vi, ve, va, vt, vs, hq, -, -, -, hst, hsl⟩ := pcCells HCS.out
    obtain ⟨At, ct, rfl, -⟩ := sl_lit hst
    obtain ⟨Al, cl, rfl, -⟩ := sl_lit hsl
    have HST1 := Lib.hid hst
    have HSL1 := Lib.hid hsl
    have HL12 : Hid (cs.length = 12) := Lib.hid (pcR.len HCS.out)
    have HC10 : Hid (cs.toArray[10]? = some (.slice At x.thn.length ct)) := Lib.hid (by rw [hq]; rfl)
    have HC11 : Hid (cs.toArray[11]? = some (.slice Al x.els.length cl)) := Lib.hid (by rw [hq]; rfl)
    clear hq hst hsl HA1 HST HCS HCA HX0 HBX
    generalize hW1 : WO.alloc _ = W1 at *
    clear hW1
    generalize WO.heap.size = K at *
    refine wl_region ?_
    try dsimp only [List.append]
    refine wl_do (some 17) (.pointer (some ⟨E.r, 0, none⟩)) rfl (by kernel_rfl) (by kernel_rfl) ?_
    refine wl_do (some 18) (.pointer (some ⟨p.fb, 0, none⟩)) rfl (by kernel_rfl) (by kernel_rfl) ?_
    refine wl_do (some 19) (.agg cs.toArray) rfl (by kernel_rfl) (run_loadRow 120 (.tmp 10) rfl elPC K 0 (by kernel_rfl) cs (blkRange HK.out 0 (by rw [Nat.zero_add]; simp)) HL12.out (by kernel_rfl)) ?_
    refine wl_do (some 20) (.int .i64 at_) rfl (by kernel_rfl) (by kernel_rfl) ?_
    refine wl_call (some 21) rfl (by kernel_rfl) 147 #[.pointer (some ⟨E.r, 0, none⟩), .pointer (some ⟨p.fb, 0, none⟩), .agg cs.toArray, .int .i64 at_] (by kernel_rfl) HON1.out ?_
    rintro y W3 ⟨b1, rfl, σ', hr1, hs1, ht1, hf1⟩
    refine ⟨_, rfl, ?_⟩
    have HK3 := Lib.hid (HK.out.kept hs1.j HK.out.lt (by decide))
    have HST3 := Lib.hid (HST2.out.tr hs1)
    have HR3 := Lib.hid (HR.out.tr hr1)
    clear HON1 hs1 HK HA2 hr1
    cases b1 with
    | false =>
      obtain ⟨ho, d, hd⟩ := hf1 rfl
      have HO := Lib.hid ho
      have HD := Lib.hid hd
      clear hf1 ht1 ho hd
      refine wl_do (some 22) (.bool true) rfl (by kernel_rfl) (by kernel_rfl) ?_
      refine wl_nil ?_
      try simp only [Act.put, List.setIfInBounds_toArray, List.set_cons_zero, List.set_cons_succ]
      go_wp2
      go_ret
      exact ⟨false, rfl, Res.over HR3.out HST3.out HO.out HD.out⟩
    | true =>
      have HA3 := Lib.hid (ht1 rfl)
      clear hf1 ht1
      have HB3 := Lib.hid HA3.out.bel
      refine wl_do (some 22) (.bool false) rfl (by kernel_rfl) (by kernel_rfl) ?_
      refine wl_nil ?_
      try simp only [Act.put, List.setIfInBounds_toArray, List.set_cons_zero, List.set_cons_succ]
      go_upto_region 6 with fail
      refine wp_region_held_drew (S := fun W => Bel W3 W) (by kernel_rfl) ((Bel.rfl_ W3).dr) (fun hS => ?_)
      refine rt_take (i := 0) (some 23) (.int .i64 at_) rfl rfl (by kernel_rfl) (by kernel_rfl) (by kernel_rfl) (fun _ _ _ h => h) (by kernel_rfl) hS (fun W _ => by kernel_rfl) ?_
      refine rt_take (i := 1) (some 24) (.pointer (some ⟨K, 10, none⟩)) rfl rfl (by kernel_rfl) (by kernel_rfl) (by kernel_rfl) (fun _ _ _ h => h) (by kernel_rfl) hS (fun W _ => by kernel_rfl) ?_
      refine rt_take (i := 2) (some 25) (.slice At x.thn.length ct) rfl rfl (by kernel_rfl) (by kernel_rfl) (by kernel_rfl) (fun _ _ _ h => h) (by kernel_rfl) hS (fun W hb => rl_cs rfl (by kernel_rfl) ((HK3.out.keep hb).cell (i := 10) HC10.out)) ?_
      refine rt_take (i := 5) (some 28) (.pointer (some ⟨K, 11, none⟩)) rfl rfl (by kernel_rfl) (by kernel_rfl) (by kernel_rfl) (fun _ _ _ h => h) (by kernel_rfl) hS (fun W _ => by kernel_rfl) ?_
      refine rt_take (i := 6) (some 29) (.slice Al x.els.length cl) rfl rfl (by kernel_rfl) (by kernel_rfl) (by kernel_rfl) (fun _ _ _ h => h) (by kernel_rfl) hS (fun W hb => rl_cs rfl (by kernel_rfl) ((HK3.out.keep hb).cell (i := 11) HC11.out)) ?_
      refine rt_call (i := 3) (some 26) (by kernel_rfl) rfl rfl (by kernel_rfl) 143 #[.slice At x.thn.length ct] (by kernel_rfl) (many_any _ _ _ (HST1.out.keep (HB3.out.tr hS)) HFT.out.2.2.1 hct) ?_
      rintro y2 W9 ⟨rfl, hb⟩
      refine ⟨_, rfl, hS.tr hb, fun hS => ?_⟩
      refine rt_take (i := 4) (some 27) (.int .i64 (1 + cntP x.thn : Int)) rfl rfl (by kernel_rfl) (by kernel_rfl) (by kernel_rfl) (fun _ _ _ h => h) (by kernel_rfl) hS (fun W _ => rb_addI (k := 1) (l := (cntP x.thn)) rfl (by kernel_rfl) (by kernel_rfl) (by omega) (by omega) (by omega) (by omega) rfl) ?_
      refine rt_call (i := 7) (some 30) (by kernel_rfl) rfl rfl (by kernel_rfl) 143 #[.slice Al x.els.length cl] (by kernel_rfl) (many_any _ _ _ (HSL1.out.keep (HB3.out.tr hS)) HFE.out.2.2.1 hce) ?_
      rintro y2 W9 ⟨rfl, hb⟩
      refine ⟨_, rfl, hS.tr hb, fun hS => ?_⟩
      refine rt_take (i := 8) (some 31) (.int .i64 (1 + cntP x.thn + cntP x.els : Int)) rfl rfl (by kernel_rfl) (by kernel_rfl) (by kernel_rfl) (fun _ _ _ h => h) (by kernel_rfl) hS (fun W _ => rb_addI (k := (1 + cntP x.thn : Int)) (l := (cntP x.els)) rfl (by kernel_rfl) (by kernel_rfl) (by omega) (by omega) (by omega) (by omega) rfl) ?_
      refine rt_take (i := 9) (some 32) (.int .i64 (at_ + x.cnt)) rfl rfl (by kernel_rfl) (by kernel_rfl) (by kernel_rfl) (fun _ _ _ h => h) (by kernel_rfl) hS (fun W _ => rb_addI (k := at_) (l := (1 + cntP x.thn + cntP x.els : Int)) rfl (by kernel_rfl) (by kernel_rfl) (by omega) (by omega) (by omega) (by omega) (by omega)) ?_
      refine rt_take (i := 10) (some 3) (.int .i64 (at_ + x.cnt)) rfl rfl (by kernel_rfl) (by kernel_rfl) (by kernel_rfl) (fun _ _ _ h => h) (by kernel_rfl) hS (fun W _ => by kernel_rfl) ?_
      refine wpAnyH_done (by kernel_rfl) ?_ _
      try simp only [Act.put, List.setIfInBounds_toArray, List.set_cons_zero, List.set_cons_succ]
      have HA4 := Lib.hid (HA3.out.keep hS)
      have HST4 := Lib.hid (HST3.out.tr (Stays.bel hS HB3.out.size))
      clear hS HA3 HST3 HK3 HST1 HSL1 HST2
      have hw1 : IntKind.i64.wrap ((j : Int) + 1) = j + 1 := by rw [IntKind.wrap_i64]; omega
      go_wp2
      go_roundw
      case rel => exact ⟨j + 1, at_ + x.cnt, _, by go_num, by omega, rfl, by omega, by omega, HR3, HA4, HST4⟩
      case measure => simp [intOf]; omega
end Go.Proofs.Ytgkpplbomciehaa
