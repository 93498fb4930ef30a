/- A list of commands: walked. What the machine makes of a command, kind by kind. Each lemma states its own conditions. -/
import Derived.Test.YtgkpplbomciehaaSca26
namespace Go.Proofs.Ytgkpplbomciehaa
open Go.RowKit
section
variable {o : Oper} {ρ : Operand → Value} {W : World} {x y : Operand} {t2 : TypeId} {k l m : Int}
theorem rb_addI (ho : o.op = .binOp .add 3 x y t2) (hx : ρ x = .int .i64 k) (hy : ρ y = .int .i64 l) (h0 : 0 ≤ k) (h1 : k ≤ 1000000) (h2 : 0 ≤ l) (h3 : l ≤ 1000000) (hm : k + l = m) : (execOp ρ o).run Try.prog W = .ok (.value (.int .i64 m)) W := by
  subst hm
  have hw : IntKind.i64.wrap (k + l) = k + l := by rw [IntKind.wrap_i64]; omega
  simp [execOp, ho, hx, hy, hw, go_sem]
end
set_option maxRecDepth 20000 in
set_option maxHeartbeats 8000000 in
theorem all_of (E : Env) (hp : Prog E.ps) (N : Nat) (HONE : OneIs E N) : AllIs E N := by
  intro p l at0 T σ0 w vl hA hL hvl hN h0 h1
  have HON := Lib.hid HONE
  have HSL := Lib.hid hvl
  have HLL := Lib.hid hL
  have HS : Hid (E.fuel - σ0.steps ≤ N) := Lib.hid hN
  have HA0 := Lib.hid hA
  have HPR := Lib.hid hp
  obtain ⟨A, c, rfl, hll⟩ := sl_lit hvl
  clear hvl hL hN hA HONE hp
  go_enter Try.func114, Try.ntmps114
  go_wp2
  go_loopw [3, 13] (fun a i wr => ∃ (j : Nat) (at_ : Int) (σ : Mc), i = .int .i64 j ∧ j ≤ l.length ∧ a = .int .i64 at_ ∧ 0 ≤ at_ ∧ at_ ≤ 1000 ∧ Hid (Reach E.ps E.fuel σ0 σ) ∧ Hid (AtS E p (pushT (l.drop j) at_ ++ T) σ wr) ∧ Hid (Stays E.w0.heap.size p.lo w wr)) (fun _ i _ => l.length - (intOf i).toNat)
  case atStart => exact ⟨0, at0, σ0, rfl, Nat.zero_le _, rfl, h0, h1, Lib.hid (Reach.rfl_ _), HA0, Lib.hid (Stays.rfl_ _ _ _)⟩
  case round =>
    obtain ⟨j, at_, σ, rfl, hj, rfl, ha0, ha1, HR, HA, HST⟩ := hrel
    obtain ⟨WO, hWO⟩ : ∃ W, W = wr := ⟨_, rfl⟩
    subst hWO
    clear HA0 h0 h1
    by_cases hlt : j < l.length
    rotate_left
    · have hdd : decide ((j : Int) < l.length) = false := decide_eq_false (by omega)
      have hjl : j = l.length := by omega
      subst hjl
      have HE : Hid (AtS E p T σ WO) := Lib.hid (by have := HA.out; rw [List.drop_length] at this; exact this)
      clear HA
      go_wp2
      go_ret
      exact ⟨true, rfl, Res.on HR.out HST.out HE.out⟩
    have hdd : decide ((j : Int) < l.length) = true := decide_eq_true (by omega)
    obtain ⟨x, hx⟩ : ∃ x, l[j]? = some x := ⟨_, List.getElem?_eq_getElem hlt⟩
    obtain ⟨b, o, cs, rfl, hcs, hca⟩ := HSL.out.elem hx
    have HA1 : Hid (AtS E p (.cmd x at_ :: (pushT (l.drop (j + 1)) (at_ + x.cnt) ++ T)) σ WO) := Lib.hid (by have := HA.out; rw [pushT_drop hx] at this; exact this)
    obtain ⟨z, hok, -⟩ := HA1.out.ok
    obtain ⟨hk0, hk1, hfin, -⟩ := id hok
    have hcn := PC.cnt_eq x
    have HB := Lib.hid HA1.out.bel
    have HSTS := Lib.hid HR.out.steps
    have HX0 : Hid (PCV E.w0 x (.agg cs.toArray)) := Lib.hid ⟨cs, hcs, rfl⟩
    have i0 : (0 : Int) ≤ j := by omega
    have i1 : (j : Int) < l.length := by omega
    have HFT := Lib.hid hok.thn
    have HFE := Lib.hid hok.els
    have HCS : Hid (PCR E.w0 x cs) := Lib.hid hcs
    have HCA := Lib.hid (hca.keep HB.out)
    have hct : cntP x.thn ≤ 1000 := by omega
    have hce : cntP x.els ≤ 1000 := by omega
    have hNN : E.fuel - σ.steps ≤ N := by have := HSTS.out; have := HS.out; omega
    clear hcs hca hok hfin HA
    go_upto_region 4 with (refine copyPC (.tmp 15) (.tmp 10) (.tmp 16) rfl rfl rfl rfl rfl rfl b (o + j * 12) (by exact rfl) cs HCA.out HCS.out (by exact rfl) (by exact rfl) ?_)
    have HBX : Hid (Bel WO (WO.alloc (.cells cs.toArray CMT))) := Lib.hid ((Bel.rfl_ WO).al _)
    have HK := Lib.hid (Blk.new WO CMT cs.toArray)
    have HA2 := Lib.hid (HA1.out.keep HBX.out)
    have HST2 := Lib.hid (HST.out.tr (Stays.bel HBX.out HB.out.size))
    have HON1 := Lib.hid (HON.out p x at_ _ σ _ (.agg cs.toArray) HA2.out HLL.out HX0.out hNN)
    obtain ⟨vi, ve, va, vt, vs, hq, -, -, -, hst, hsl⟩ := pcCells HCS.out
    obtain ⟨At, ct, rfl, -⟩ := sl_lit hst
    obtain ⟨Al, cl, rfl, -⟩ := sl_lit hsl
    have HST1 := Lib.hid hst
    have HSL1 := Lib.hid hsl
    have HL12 : Hid (cs.length = 12) := Lib.hid (pcR.len HCS.out)
    have HC10 : Hid (cs.toArray[10]? = some (.slice At x.thn.length ct)) := Lib.hid (by rw [hq]; rfl)
    have HC11 : Hid (cs.toArray[11]? = some (.slice Al x.els.length cl)) := Lib.hid (by rw [hq]; rfl)
    clear hq hst hsl HA1 HST HCS HCA HX0 HBX
    generalize hW1 : WO.alloc _ = W1 at *
    clear hW1
    generalize WO.heap.size = K at *
    refine wl_region ?_
    try dsimp only [List.append]
    refine wl_do (some 17) (.pointer (some ⟨E.r, 0, none⟩)) rfl (by kernel_rfl) (by kernel_rfl) ?_
    refine wl_do (some 18) (.pointer (some ⟨p.fb, 0, none⟩)) rfl (by kernel_rfl) (by kernel_rfl) ?_
    refine wl_do (some 19) (.agg cs.toArray) rfl (by kernel_rfl) (run_loadRow 120 (.tmp 10) rfl elPC K 0 (by kernel_rfl) cs (blkRange HK.out 0 (by rw [Nat.zero_add]; simp)) HL12.out (by kernel_rfl)) ?_
    refine wl_do (some 20) (.int .i64 at_) rfl (by kernel_rfl) (by kernel_rfl) ?_
    refine wl_call (some 21) rfl (by kernel_rfl) 147 #[.pointer (some ⟨E.r, 0, none⟩), .pointer (some ⟨p.fb, 0, none⟩), .agg cs.toArray, .int .i64 at_] (by kernel_rfl) HON1.out ?_
    rintro y W3 ⟨b1, rfl, σ', hr1, hs1, ht1, hf1⟩
    refine ⟨_, rfl, ?_⟩
    have HK3 := Lib.hid (HK.out.kept hs1.j HK.out.lt (by decide))
    have HST3 := Lib.hid (HST2.out.tr hs1)
    have HR3 := Lib.hid (HR.out.tr hr1)
    clear HON1 hs1 HK HA2 hr1
    cases b1 with
    | false =>
      obtain ⟨ho, d, hd⟩ := hf1 rfl
      have HO := Lib.hid ho
      have HD := Lib.hid hd
      clear hf1 ht1 ho hd
      refine wl_do (some 22) (.bool true) rfl (by kernel_rfl) (by kernel_rfl) ?_
      refine wl_nil ?_
      try simp only [Act.put, List.setIfInBounds_toArray, List.set_cons_zero, List.set_cons_succ]
      go_wp2
      go_ret
      exact ⟨false, rfl, Res.over HR3.out HST3.out HO.out HD.out⟩
    | true =>
      have HA3 := Lib.hid (ht1 rfl)
      clear hf1 ht1
      have HB3 := Lib.hid HA3.out.bel
      refine wl_do (some 22) (.bool false) rfl (by kernel_rfl) (by kernel_rfl) ?_
      refine wl_nil ?_
      try simp only [Act.put, List.setIfInBounds_toArray, List.set_cons_zero, List.set_cons_succ]
      go_upto_region 6 with fail
      refine wp_region_held_drew (S := fun W => Bel W3 W) (by kernel_rfl) ((Bel.rfl_ W3).dr) (fun hS => ?_)
      refine rt_take (i := 0) (some 23) (.int .i64 at_) rfl rfl (by kernel_rfl) (by kernel_rfl) (by kernel_rfl) (fun _ _ _ h => h) (by kernel_rfl) hS (fun W _ => by kernel_rfl) ?_
      refine rt_take (i := 1) (some 24) (.pointer (some ⟨K, 10, none⟩)) rfl rfl (by kernel_rfl) (by kernel_rfl) (by kernel_rfl) (fun _ _ _ h => h) (by kernel_rfl) hS (fun W _ => by kernel_rfl) ?_
      refine rt_take (i := 2) (some 25) (.slice At x.thn.length ct) rfl rfl (by kernel_rfl) (by kernel_rfl) (by kernel_rfl) (fun _ _ _ h => h) (by kernel_rfl) hS (fun W hb => rl_cs rfl (by kernel_rfl) ((HK3.out.keep hb).cell (i := 10) HC10.out)) ?_
      refine rt_take (i := 5) (some 28) (.pointer (some ⟨K, 11, none⟩)) rfl rfl (by kernel_rfl) (by kernel_rfl) (by kernel_rfl) (fun _ _ _ h => h) (by kernel_rfl) hS (fun W _ => by kernel_rfl) ?_
      refine rt_take (i := 6) (some 29) (.slice Al x.els.length cl) rfl rfl (by kernel_rfl) (by kernel_rfl) (by kernel_rfl) (fun _ _ _ h => h) (by kernel_rfl) hS (fun W hb => rl_cs rfl (by kernel_rfl) ((HK3.out.keep hb).cell (i := 11) HC11.out)) ?_
      refine rt_call (i := 3) (some 26) (by kernel_rfl) rfl rfl (by kernel_rfl) 143 #[.slice At x.thn.length ct] (by kernel_rfl) (many_any _ _ _ (HST1.out.keep (HB3.out.tr hS)) HFT.out.2.2.1 hct) ?_
      rintro y2 W9 ⟨rfl, hb⟩
      refine ⟨_, rfl, hS.tr hb, fun hS => ?_⟩
      refine rt_take (i := 4) (some 27) (.int .i64 (1 + cntP x.thn : Int)) rfl rfl (by kernel_rfl) (by kernel_rfl) (by kernel_rfl) (fun _ _ _ h => h) (by kernel_rfl) hS (fun W _ => rb_addI (k := 1) (l := (cntP x.thn)) rfl (by kernel_rfl) (by kernel_rfl) (by omega) (by omega) (by omega) (by omega) rfl) ?_
      refine rt_call (i := 7) (some 30) (by kernel_rfl) rfl rfl (by kernel_rfl) 143 #[.slice Al x.els.length cl] (by kernel_rfl) (many_any _ _ _ (HSL1.out.keep (HB3.out.tr hS)) HFE.out.2.2.1 hce) ?_
      rintro y2 W9 ⟨rfl, hb⟩
      refine ⟨_, rfl, hS.tr hb, fun hS => ?_⟩
      refine rt_take (i := 8) (some 31) (.int .i64 (1 + cntP x.thn + cntP x.els : Int)) rfl rfl (by kernel_rfl) (by kernel_rfl) (by kernel_rfl) (fun _ _ _ h => h) (by kernel_rfl) hS (fun W _ => rb_addI (k := (1 + cntP x.thn : Int)) (l := (cntP x.els)) rfl (by kernel_rfl) (by kernel_rfl) (by omega) (by omega) (by omega) (by omega) rfl) ?_
      refine rt_take (i := 9) (some 32) (.int .i64 (at_ + x.cnt)) rfl rfl (by kernel_rfl) (by kernel_rfl) (by kernel_rfl) (fun _ _ _ h => h) (by kernel_rfl) hS (fun W _ => rb_addI (k := at_) (l := (1 + cntP x.thn + cntP x.els : Int)) rfl (by kernel_rfl) (by kernel_rfl) (by omega) (by omega) (by omega) (by omega) (by omega)) ?_
      refine rt_take (i := 10) (some 3) (.int .i64 (at_ + x.cnt)) rfl rfl (by kernel_rfl) (by kernel_rfl) (by kernel_rfl) (fun _ _ _ h => h) (by kernel_rfl) hS (fun W _ => by kernel_rfl) ?_
      refine wpAnyH_done (by kernel_rfl) ?_ _
      try simp only [Act.put, List.setIfInBounds_toArray, List.set_cons_zero, List.set_cons_succ]
      have HA4 := Lib.hid (HA3.out.keep hS)
      have HST4 := Lib.hid (HST3.out.tr (Stays.bel hS HB3.out.size))
      clear hS HA3 HST3 HK3 HST1 HSL1 HST2
      have hw1 : IntKind.i64.wrap ((j : Int) + 1) = j + 1 := by rw [IntKind.wrap_i64]; omega
      go_wp2
      go_roundw
      case rel => exact ⟨j + 1, at_ + x.cnt, _, by go_num, by omega, rfl, by omega, by omega, HR3, HA4, HST4⟩
      case measure => simp [intOf]; omega
/-- the machine behind the step of a command -/
def Mc.on (σ : Mc) (F : Fr) (rest : List Fr) (a : Int) (T : List Tk) : Mc := { σ with steps := σ.steps + 1, frames := { F with at_ := a, tasks := T } :: rest, out := σ.out ++ [⟨1, F.num, a, 0, 0, 0⟩] }
section
variable {ps : List PF} {fuel : Int} {σ : Mc} {F : Fr} {rest : List Fr} {x : PC} {a : Int} {T : List Tk}
theorem Mc.do_fuel (hfr : σ.frames = F :: rest) (ht : F.tasks = .cmd x a :: T) (hs : σ.steps = fuel) : σ.do_ ps fuel = { σ with out := σ.out ++ [⟨7, F.num, a, 0, 0, 1⟩], over := true } := by
  rw [Mc.do_cmd hfr ht, if_pos hs]
  unfold Mc.end_ Mc.num
  rw [hfr]
theorem Mc.do_on (hfr : σ.frames = F :: rest) (ht : F.tasks = .cmd x a :: T) (hs : σ.steps ≠ fuel) (h3 : x.kind ≠ 3) : σ.do_ ps fuel = (σ.on F rest a T).cmd x a { F with at_ := a, tasks := T } := by
  rw [Mc.do_cmd hfr ht, if_neg hs, if_neg h3]
  rfl
theorem Mc.do_read (hfr : σ.frames = F :: rest) (ht : F.tasks = .cmd x a :: T) (hs : σ.steps ≠ fuel) (hk : x.kind = 4) : σ.do_ ps fuel =
    { σ.on F rest a T with inp := σ.inp.tail, frames := { F with at_ := a, tasks := T, vars := setC F.vars x.var 0 (σ.inp.headD 0) } :: rest, out := σ.out ++ [⟨1, F.num, a, 0, 0, 0⟩] ++ [⟨3, F.num, a, 0, 0, σ.inp.headD 0⟩] ++ [⟨2, F.num, a, x.var, 0, σ.inp.headD 0⟩] } := by
  rw [Mc.do_on hfr ht hs (by omega)]
  unfold Mc.cmd
  rw [if_pos hk]
  rfl
theorem Mc.do_put (hfr : σ.frames = F :: rest) (ht : F.tasks = .cmd x a :: T) (hs : σ.steps ≠ fuel) (hk : x.kind = 2) : σ.do_ ps fuel =
    if putHow F.vars x = 0 then (σ.on F rest a T).write a x.var (x.index.val F.vars).1 (x.expr.val F.vars).1 else (σ.on F rest a T).end_ a (putHow F.vars x) := by
  rw [Mc.do_on hfr ht hs (by omega)]
  unfold Mc.cmd putHow
  dsimp only
  rw [if_neg (by omega)]
  by_cases h1 : (x.index.val F.vars).2 ≠ 0
  · rw [if_pos ⟨hk, h1⟩, if_pos h1, if_neg h1]
  rw [if_neg (fun h => h1 h.2), if_neg h1]
  by_cases h2 : (x.expr.val F.vars).2 ≠ 0
  · rw [if_pos h2, if_pos h2, if_neg h2]
  rw [if_neg h2, if_neg h2, if_pos hk]
  split
  · rw [if_pos rfl]
  · rw [if_neg (by decide)]
/-- a command that looks at its expression alone -/
theorem Mc.do_fail (hfr : σ.frames = F :: rest) (ht : F.tasks = .cmd x a :: T) (hs : σ.steps ≠ fuel) (h2 : x.kind ≠ 2) (h3 : x.kind ≠ 3) (h4 : x.kind ≠ 4) (hv : (x.expr.val F.vars).2 ≠ 0) : σ.do_ ps fuel = (σ.on F rest a T).end_ a (x.expr.val F.vars).2 := by
  rw [Mc.do_on hfr ht hs h3]
  unfold Mc.cmd
  dsimp only
  rw [if_neg h4, if_neg (fun h => h2 h.1), if_pos hv]
theorem Mc.do_set (hfr : σ.frames = F :: rest) (ht : F.tasks = .cmd x a :: T) (hs : σ.steps ≠ fuel) (hk : x.kind = 1) (hv : (x.expr.val F.vars).2 = 0) : σ.do_ ps fuel = (σ.on F rest a T).write a x.var 0 (x.expr.val F.vars).1 := by
  rw [Mc.do_on hfr ht hs (by omega)]
  unfold Mc.cmd
  dsimp only
  rw [if_neg (by omega), if_neg (fun h => by omega), if_neg (by simpa using hv), if_neg (by omega), if_pos hk]
theorem Mc.do_print (hfr : σ.frames = F :: rest) (ht : F.tasks = .cmd x a :: T) (hs : σ.steps ≠ fuel) (hk : x.kind = 5) (hv : (x.expr.val F.vars).2 = 0) : σ.do_ ps fuel = { σ.on F rest a T with out := σ.out ++ [⟨1, F.num, a, 0, 0, 0⟩] ++ [⟨4, F.num, a, 0, 0, (x.expr.val F.vars).1⟩] } := by
  rw [Mc.do_on hfr ht hs (by omega)]
  unfold Mc.cmd
  dsimp only
  rw [if_neg (by omega), if_neg (fun h => by omega), if_neg (by simpa using hv), if_neg (by omega), if_neg (by omega), if_pos hk]
  rfl
theorem Mc.do_if (hfr : σ.frames = F :: rest) (ht : F.tasks = .cmd x a :: T) (hs : σ.steps ≠ fuel) (hk : x.kind = 6) (hv : (x.expr.val F.vars).2 = 0) : σ.do_ ps fuel = σ.on F rest a ((if (x.expr.val F.vars).1 ≠ 0 then pushT x.thn (a + 1) else pushT x.els (a + 1 + cntP x.thn)) ++ T) := by
  rw [Mc.do_on hfr ht hs (by omega)]
  unfold Mc.cmd
  dsimp only
  rw [if_neg (by omega), if_neg (fun h => by omega), if_neg (by simpa using hv), if_neg (by omega), if_neg (by omega), if_neg (by omega), if_pos hk]
  rfl
theorem Mc.do_while (hfr : σ.frames = F :: rest) (ht : F.tasks = .cmd x a :: T) (hs : σ.steps ≠ fuel) (hk : x.kind = 7) (hv : (x.expr.val F.vars).2 = 0) : σ.do_ ps fuel = σ.on F rest a (if (x.expr.val F.vars).1 ≠ 0 then pushT x.thn (a + 1) ++ .cmd x a :: T else T) := by
  rw [Mc.do_on hfr ht hs (by omega)]
  unfold Mc.cmd
  dsimp only
  rw [if_neg (by omega), if_neg (fun h => by omega), if_neg (by simpa using hv), if_neg (by omega), if_neg (by omega), if_neg (by omega), if_neg (by omega)]
  split
  · rfl
  · rfl
/-- a machine that goes on is good -/
theorem Good.next {ps : List PF} {fuel : Int} {σ σ' : Mc} {F F' : Fr} {rest rest' : List Fr} (hp : Prog ps) (h : Good ps fuel σ F rest) (hd : σ.do_ ps fuel = σ') (hfr : σ'.frames = F' :: rest') (ho : σ'.over = false) : Good ps fuel σ' F' rest' ∧ Reach ps fuel σ σ' := by
  refine ⟨?_, Reach.one h.on hd⟩
  obtain ⟨-, h1⟩ := h.step hp
  rw [hd] at h1
  rcases h1 with h1 | ⟨f', r', hg, -⟩
  · rw [ho] at h1; cases h1
  · have := hg.fr
    rw [hfr] at this
    injection this with e1 e2
    subst e1 e2
    exact hg
theorem Good.outs (h : Good ps fuel σ F rest) (hf : fuel ≤ 10000) : σ.out.length ≤ 70000 ∧ σ.steps ≤ 10000 := by
  have h1 := h.len
  have h2 := h.s1
  omega
end
end Go.Proofs.Ytgkpplbomciehaa
