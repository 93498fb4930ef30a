/- Walks of commands, by the program: walked, whatever is done. Each lemma states its own conditions. -/
import Derived.Test.YtgkpplbomciehaaCdt11
import Derived.Test.YtgkpplbomciehaaCdt12
namespace Go.Proofs.Ytgkpplbomciehaa
open Go.RowKit
theorem rl_cs {o : Oper} {ρ : Operand → Value} {W : World} {x : Operand} {b f : Nat} {v : Value} (ho : o.op = .load 76 x) (hx : ρ x = .pointer (some ⟨b, f, none⟩)) (hc : W.cell? ⟨b, f, none⟩ = some v) : (execOp ρ o).run Try.prog W = .ok (.value v) W := by
  simp [execOp, ho, hx, hc, go_sem]
theorem rl_es {o : Oper} {ρ : Operand → Value} {W : World} {x : Operand} {b f : Nat} {v : Value} (ho : o.op = .load 45 x) (hx : ρ x = .pointer (some ⟨b, f, none⟩)) (hc : W.cell? ⟨b, f, none⟩ = some v) : (execOp ρ o).run Try.prog W = .ok (.value v) W := by
  simp [execOp, ho, hx, hc, go_sem]
theorem rl_is {o : Oper} {ρ : Operand → Value} {W : World} {x : Operand} {b f : Nat} {v : Value} (ho : o.op = .load 23 x) (hx : ρ x = .pointer (some ⟨b, f, none⟩)) (hc : W.cell? ⟨b, f, none⟩ = some v) : (execOp ρ o).run Try.prog W = .ok (.value v) W := by
  simp [execOp, ho, hx, hc, go_sem]
theorem rl_fs {o : Oper} {ρ : Operand → Value} {W : World} {x : Operand} {b f : Nat} {v : Value} (ho : o.op = .load 38 x) (hx : ρ x = .pointer (some ⟨b, f, none⟩)) (hc : W.cell? ⟨b, f, none⟩ = some v) : (execOp ρ o).run Try.prog W = .ok (.value v) W := by
  simp [execOp, ho, hx, hc, go_sem]
theorem sl_lit {α : Type} {r : Rep α} {w : World} {v : Value} {xs : List α} (h : Sl r w v xs) : ∃ A c, v = .slice A xs.length c ∧ xs.length ≤ 9223372036854775807 := by
  obtain ⟨A, c, rfl, h1, h2, -⟩ := h
  exact ⟨A, c, rfl, by have := h2.1; simp only [maxLen] at this; omega⟩
/-- what a closure that is handed to Walk does -/
def Does (F : Nat) (caps : Array Value) (TY : TypeId) (f : Int → PC → Int → Int × Bool) (Ok : PC → Int → Int → Prop) (w0 ws : World) (R : Nat) : Prop :=
  ∀ x d s cs W, Ok x d s → PCR w0 x cs → ws.grownBy W (some R) → Blk W R TY #[.int .i64 s] → Calls Try.prog F (#[.agg cs.toArray, .int .i64 d] ++ caps) W fun r w' => r = .returned (.bool (f s x d).2) ∧ W.grownBy w' (some R) ∧ Blk w' R TY #[.int .i64 (f s x d).1]
/-- what Walk leaves -/
def WalkRes (TY : TypeId) (R : Nat) (p : Int × Bool) (w : World) (r : Ending) (w' : World) : Prop := r = .returned (.bool p.2) ∧ w.grownBy w' (some R) ∧ Blk w' R TY #[.int .i64 p.1]
/-- Walk of a list -/
def Walks (F : Nat) (caps : Array Value) (TY : TypeId) (f : Int → PC → Int → Int × Bool) (Ok : PC → Int → Int → Prop) (w0 ws : World) (R : Nat) (l : List PC) : Prop :=
  ∀ d s v W, okwL f Ok l d s → Sl pcR w0 v l → ws.grownBy W (some R) → Blk W R TY #[.int .i64 s] → Calls Try.prog 137 #[v, .int .i64 d, .func (.func F) #[] caps] W fun r w' => WalkRes TY R (walkL f l d s) W r w'
theorem walk_done {TY : TypeId} {R : Nat} {p : Int × Bool} {w w' : World} {s : Int} {b : Bool} (h : (s, b) = p) (hg : w.grownBy w' (some R)) (hb : Blk w' R TY #[.int .i64 s]) : WalkRes TY R p w (.returned (.bool b)) w' := by
  subst h
  exact ⟨rfl, hg, hb⟩
set_option maxRecDepth 20000 in
set_option maxHeartbeats 8000000 in
theorem walk_stepM (c1 : Value) (TY : TypeId) (f : Int → PC → Int → Int × Bool) (Ok : PC → Int → Int → Prop) (hOk : ∀ x d s, Ok x d s → 0 ≤ d ∧ d ≤ 6) (w0 ws : World) (R : Nat) (hR : w0.heap.size ≤ R) (hws : Bel w0 ws) (hcl : Does 156 #[c1] TY f Ok w0 ws R)
    (l : List PC) (IH : ∀ x ∈ l, Walks 156 #[c1] TY f Ok w0 ws R x.thn ∧ Walks 156 #[c1] TY f Ok w0 ws R x.els) : Walks 156 #[c1] TY f Ok w0 ws R l := by
  intro d s0 v w hok h hg0 hc0
  have HSL := Lib.hid h
  have HI := Lib.hid IH
  have HCL := Lib.hid hcl
  have HBEL : Hid (∀ W, ws.grownBy W (some R) → Bel w0 W) := Lib.hid fun W hg => grownBel hws hR hg
  obtain ⟨A, c, rfl, hll⟩ := sl_lit h
  have HC0 := Lib.hid hc0
  have HG0 := Lib.hid hg0
  have HT : Hid (walkL f (l.drop 0) d s0 = walkL f l d s0) := Lib.hid rfl
  have HO : Hid (okwL f Ok (l.drop 0) d s0) := Lib.hid hok
  have HRF : Hid (w.grownBy w (some R)) := Lib.hid (World.grownBy.refl _ _)
  clear IH hcl hc0 hg0 hok hws hR
  generalize walkL f l d s0 = T at *
  go_enter Try.func137, Try.ntmps137
  go_wp2
  go_loopw [11] (fun i wr => ∃ (j : Nat) (s : Int), i = .int .i64 j ∧ j ≤ l.length ∧ Hid (walkL f (l.drop j) d s = T) ∧ Hid (okwL f Ok (l.drop j) d s) ∧ Hid (w.grownBy wr (some R)) ∧ Hid (Blk wr R TY #[.int .i64 s])) (fun i _ => l.length - (intOf i).toNat)
  case atStart => exact ⟨0, s0, rfl, Nat.zero_le _, HT, HO, HRF, HC0⟩
  case round =>
    obtain ⟨j, s, rfl, hj, HS, HOK, HG, HC⟩ := hrel
    obtain ⟨WO, hWO⟩ : ∃ W, W = wr := ⟨_, rfl⟩
    subst hWO
    clear HT HO HRF HC0
    by_cases hlt : j < l.length
    rotate_left
    · have hdd : decide ((j : Int) < l.length) = false := decide_eq_false (by omega)
      have HR : Hid ((s, true) = T) := Lib.hid (by rw [← HS.out, walkL_end (by omega)])
      go_wp2
      go_ret
      exact walk_done HR.out HG.out HC.out
    have hdd : decide ((j : Int) < l.length) = true := decide_eq_true (by omega)
    obtain ⟨x, hx⟩ : ∃ x, l[j]? = some x := ⟨_, List.getElem?_eq_getElem hlt⟩
    obtain ⟨b, o, cs, rfl, hcs, hca⟩ := HSL.out.elem hx
    obtain ⟨hix1, hix2⟩ := HI.out x (List.mem_of_getElem? hx)
    have HI1 := Lib.hid hix1
    have HI2 := Lib.hid hix2
    obtain ⟨ho1, ho2⟩ := okwL_drop hx HOK.out
    obtain ⟨ho3, ho4⟩ := PC.okw_eq.1 ho1
    obtain ⟨hd0, hd6⟩ := hOk x d s ho3
    have HO2 := Lib.hid ho2
    have HO4 := Lib.hid ho4
    have HD := Lib.hid (fun W hg hb => HCL.out x d s cs W ho3 hcs hg hb)
    have HT : Hid ((thenW (thenW (f s x d) fun s1 => thenW (walkL f x.thn (d + 1) s1) fun s2 => walkL f x.els (d + 1) s2) fun s3 => walkL f (l.drop (j + 1)) d s3) = T) := Lib.hid (by rw [← HS.out, walkL_drop hx, PC.walk_eq])
    have HWK : Hid (x.walk f d s = thenW (f s x d) fun s1 => thenW (walkL f x.thn (d + 1) s1) fun s2 => walkL f x.els (d + 1) s2) := Lib.hid (PC.walk_eq f x d s)
    have HGW : Hid (ws.grownBy WO (some R)) := Lib.hid (HG0.out.trans HG.out)
    have HB := Lib.hid (HBEL.out _ HGW.out)
    have i0 : (0 : Int) ≤ j := by omega
    have i1 : (j : Int) < l.length := by omega
    have HCS := Lib.hid hcs
    have HCA := Lib.hid (hca.keep HB.out)
    have hRK := HC.out.lt
    clear hcs hca hx HS HI hix1 hix2 ho1 ho2 ho3 ho4 HOK
    go_upto_region 4 with (refine copyPC (.tmp 13) (.tmp 8) (.tmp 14) rfl rfl rfl rfl rfl rfl b (o + j * 12) (by exact rfl) cs HCA.out (HCS.out.keep HB.out) (by exact rfl) (by exact rfl) ?_)
    have HX : Hid (WO.grownBy (WO.alloc (.cells cs.toArray 120)) (some R)) := Lib.hid (((Bel.rfl_ WO).al (.cells cs.toArray 120)).grown _)
    have HK := Lib.hid (Blk.new WO 120 cs.toArray)
    replace HC := Lib.hid (HC.out.keep ((Bel.rfl_ WO).al (.cells cs.toArray 120)))
    obtain ⟨vi, ve, va, vt, vs, rfl, hsi, hse, hsa, hst, hsl⟩ := pcCells HCS.out
    clear HCS HCA
    generalize hW1 : WO.alloc _ = W1 at *
    clear hW1
    generalize WO.heap.size = K at *
    obtain ⟨At, ct, rfl, hlt1⟩ := sl_lit hst
    obtain ⟨Al, cl, rfl, hlt2⟩ := sl_lit hsl
    have HT1 := Lib.hid (fun s1 W (h : okwL f Ok x.thn (d + 1) s1) hg hb => HI1.out (d + 1) s1 _ W h hst hg hb)
    have HL1 := Lib.hid (fun s1 W (h : okwL f Ok x.els (d + 1) s1) hg hb => HI2.out (d + 1) s1 _ W h hsl hg hb)
    have hwd : IntKind.i64.wrap (d + 1) = d + 1 := by rw [IntKind.wrap_i64]; omega
    clear hsi hse hsa hst hsl HI1 HI2 HB
    have hKR : K ≠ R := by omega
    generalize x.kind = xk at *
    generalize x.var = xv at *
    generalize x.fn = xf at *
    generalize x.index.kind = ik at *
    generalize x.index.n = iN at *
    generalize x.expr.kind = ek at *
    generalize x.expr.n = eN at *
    refine wl_region ?_
    try dsimp only [List.append]
    refine wl_do (some 15) (.func (.func 156) #[] #[c1]) rfl (by kernel_rfl) (by kernel_rfl) ?_
    refine wl_do (some 16) (.agg #[.int .i64 xk, .int .i64 xv, .int .i64 xf, .int .i64 ik, .int .i64 iN, vi, .int .i64 ek, .int .i64 eN, ve, va, .slice At x.thn.length ct, .slice Al x.els.length cl]) rfl (by kernel_rfl) (run_loadRow 120 (.tmp 8) rfl elPC K 0 (by kernel_rfl) [.int .i64 xk, .int .i64 xv, .int .i64 xf, .int .i64 ik, .int .i64 iN, vi, .int .i64 ek, .int .i64 eN, ve, va, .slice At x.thn.length ct, .slice Al x.els.length cl] (blkRange HK.out 0 rfl) rfl (by kernel_rfl)) ?_
    refine wl_do (some 17) (.int .i64 d) rfl (by kernel_rfl) (by kernel_rfl) ?_
    refine wl_call (some 18) rfl (by kernel_rfl) 156 #[.agg #[.int .i64 xk, .int .i64 xv, .int .i64 xf, .int .i64 ik, .int .i64 iN, vi, .int .i64 ek, .int .i64 eN, ve, va, .slice At x.thn.length ct, .slice Al x.els.length cl], .int .i64 d, c1] (by kernel_rfl) (HD.out _ (HGW.out.trans HX.out) HC.out) ?_
    rintro r W3 ⟨rfl, hg, hm⟩
    replace HX := Lib.hid (HX.out.trans hg)
    replace HK := Lib.hid (HK.out.grown hg (by simpa using hKR))
    replace HC := Lib.hid hm
    clear hg hm
    refine ⟨_, rfl, ?_⟩
    rcases hfs : f s x d with ⟨s1, b1⟩
    rw [hfs] at HC HT HWK
    cases b1 with
    | false =>
      have HR : Hid ((s1, false) = T) := HT
      refine wl_many 19 _ [((some 19), .bool true), ((some 20), .bool true), ((some 21), undef), ((some 22), undef), ((some 23), undef), ((some 24), undef), ((some 25), undef), ((some 26), undef), ((some 27), undef), ((some 28), .bool true), ((some 29), .bool true), ((some 30), undef), ((some 31), undef), ((some 32), undef), ((some 33), undef), ((some 34), undef), ((some 35), undef), ((some 36), undef), ((some 37), .bool true)] rfl (by kernel_rfl) ?_
      refine wl_nil ?_
      try simp only [putAll, Act.put, List.setIfInBounds_toArray, List.set_cons_zero, List.set_cons_succ]
      go_wp2
      go_ret
      exact walk_done HR.out (HG.out.trans HX.out) HC.out
    | true =>
      have HOT := Lib.hid (HO4.out s1 hfs).1
      have HOE := Lib.hid (HO4.out s1 hfs).2
      refine wl_many 3 _ [((some 19), .bool false), ((some 20), .bool false), ((some 21), .pointer (some ⟨K, 10, none⟩))] rfl (by kernel_rfl) ?_
      refine wl_do (some 22) (.slice At x.thn.length ct) rfl (by kernel_rfl) (rl_cs rfl (by kernel_rfl) (HK.out.cell (i := 10) (v := .slice At x.thn.length ct) rfl)) ?_
      refine wl_do (some 23) (.int .i64 d) rfl (by kernel_rfl) (by kernel_rfl) ?_
      refine wl_do (some 24) (.int .i64 (d + 1)) rfl (by kernel_rfl) (Eq.trans (b := .ok (.value (.int .i64 (IntKind.i64.wrap (d + 1)))) _) (by kernel_rfl) (by rw [hwd])) ?_
      refine wl_do (some 25) (.func (.func 156) #[] #[c1]) rfl (by kernel_rfl) (by kernel_rfl) ?_
      refine wl_call (some 26) rfl (by kernel_rfl) 137 #[.slice At x.thn.length ct, .int .i64 (d + 1), .func (.func 156) #[] #[c1]] (by kernel_rfl) (HT1.out s1 _ HOT.out (HGW.out.trans HX.out) HC.out) ?_
      rintro r W3 ⟨rfl, hg, hm⟩
      replace HX := Lib.hid (HX.out.trans hg)
      replace HK := Lib.hid (HK.out.grown hg (by simpa using hKR))
      replace HC := Lib.hid hm
      clear hg hm
      refine ⟨_, rfl, ?_⟩
      rcases hft : walkL f x.thn (d + 1) s1 with ⟨s2, b2⟩
      rw [hft] at HC
      replace HT : Hid ((thenW (thenW (walkL f x.thn (d + 1) s1) fun s2 => walkL f x.els (d + 1) s2) fun s3 => walkL f (l.drop (j + 1)) d s3) = T) := HT
      replace HWK : Hid (x.walk f d s = thenW (walkL f x.thn (d + 1) s1) fun s2 => walkL f x.els (d + 1) s2) := HWK
      rw [hft] at HT HWK
      cases b2 with
      | false =>
        have HR : Hid ((s2, false) = T) := HT
        refine wl_many 11 _ [((some 27), .bool true), ((some 28), .bool true), ((some 29), .bool true), ((some 30), undef), ((some 31), undef), ((some 32), undef), ((some 33), undef), ((some 34), undef), ((some 35), undef), ((some 36), undef), ((some 37), .bool true)] rfl (by kernel_rfl) ?_
        refine wl_nil ?_
        try simp only [putAll, Act.put, List.setIfInBounds_toArray, List.set_cons_zero, List.set_cons_succ]
        go_wp2
        go_ret
        exact walk_done HR.out (HG.out.trans HX.out) HC.out
      | true =>
        have HOE2 := Lib.hid (HOE.out s2 hft)
        refine wl_many 4 _ [((some 27), .bool false), ((some 28), .bool false), ((some 29), .bool false), ((some 30), .pointer (some ⟨K, 11, none⟩))] rfl (by kernel_rfl) ?_
        refine wl_do (some 31) (.slice Al x.els.length cl) rfl (by kernel_rfl) (rl_cs rfl (by kernel_rfl) (HK.out.cell (i := 11) (v := .slice Al x.els.length cl) rfl)) ?_
        refine wl_do (some 32) (.int .i64 d) rfl (by kernel_rfl) (by kernel_rfl) ?_
        refine wl_do (some 33) (.int .i64 (d + 1)) rfl (by kernel_rfl) (Eq.trans (b := .ok (.value (.int .i64 (IntKind.i64.wrap (d + 1)))) _) (by kernel_rfl) (by rw [hwd])) ?_
        refine wl_do (some 34) (.func (.func 156) #[] #[c1]) rfl (by kernel_rfl) (by kernel_rfl) ?_
        refine wl_call (some 35) rfl (by kernel_rfl) 137 #[.slice Al x.els.length cl, .int .i64 (d + 1), .func (.func 156) #[] #[c1]] (by kernel_rfl) (HL1.out s2 _ HOE2.out (HGW.out.trans HX.out) HC.out) ?_
        rintro r W3 ⟨rfl, hg, hm⟩
        replace HX := Lib.hid (HX.out.trans hg)
        replace HK := Lib.hid (HK.out.grown hg (by simpa using hKR))
        replace HC := Lib.hid hm
        clear hg hm
        refine ⟨_, rfl, ?_⟩
        replace HT : Hid ((thenW (walkL f x.els (d + 1) s2) fun s3 => walkL f (l.drop (j + 1)) d s3) = T) := HT
        replace HWK : Hid (x.walk f d s = walkL f x.els (d + 1) s2) := HWK
        rcases hfe : walkL f x.els (d + 1) s2 with ⟨s3, b3⟩
        rw [hfe] at HC HT HWK
        cases b3 with
        | false =>
          have HR : Hid ((s3, false) = T) := HT
          refine wl_many 2 _ [((some 36), .bool true), ((some 37), .bool true)] rfl (by kernel_rfl) ?_
          refine wl_nil ?_
          try simp only [putAll, Act.put, List.setIfInBounds_toArray, List.set_cons_zero, List.set_cons_succ]
          go_wp2
          go_ret
          exact walk_done HR.out (HG.out.trans HX.out) HC.out
        | true =>
          replace HT : Hid (walkL f (l.drop (j + 1)) d s3 = T) := HT
          have HON := Lib.hid (HO2.out s3 HWK.out)
          refine wl_many 2 _ [((some 36), .bool false), ((some 37), .bool false)] rfl (by kernel_rfl) ?_
          refine wl_nil ?_
          try simp only [putAll, Act.put, List.setIfInBounds_toArray, List.set_cons_zero, List.set_cons_succ]
          go_wp2
          go_roundw
          case rel => exact ⟨j + 1, s3, by go_num, by omega, HT, HON, Lib.hid (HG.out.trans HX.out), HC⟩
          case measure => simp [intOf]; omega
/-- Walk, whatever the list -/
theorem walk_anyM (c1 : Value) (TY : TypeId) (f : Int → PC → Int → Int × Bool) (Ok : PC → Int → Int → Prop) (hOk : ∀ x d s, Ok x d s → 0 ≤ d ∧ d ≤ 6) (w0 ws : World) (R : Nat) (hR : w0.heap.size ≤ R) (hws : Bel w0 ws) (hcl : Does 156 #[c1] TY f Ok w0 ws R) (l : List PC) : Walks 156 #[c1] TY f Ok w0 ws R l :=
  walk_stepM c1 TY f Ok hOk w0 ws R hR hws hcl l fun x _ => PC.ind2 (p := fun x => Walks 156 #[c1] TY f Ok w0 ws R x.thn ∧ Walks 156 #[c1] TY f Ok w0 ws R x.els)
    (fun x h1 h2 => ⟨walk_stepM c1 TY f Ok hOk w0 ws R hR hws hcl x.thn h1, walk_stepM c1 TY f Ok hOk w0 ws R hR hws hcl x.els h2⟩) x
set_option maxRecDepth 20000 in
set_option maxHeartbeats 8000000 in
theorem walk_stepF (c1 : Value) (TY : TypeId) (f : Int → PC → Int → Int × Bool) (Ok : PC → Int → Int → Prop) (hOk : ∀ x d s, Ok x d s → 0 ≤ d ∧ d ≤ 6) (w0 ws : World) (R : Nat) (hR : w0.heap.size ≤ R) (hws : Bel w0 ws) (hcl : Does 138 #[c1] TY f Ok w0 ws R)
    (l : List PC) (IH : ∀ x ∈ l, Walks 138 #[c1] TY f Ok w0 ws R x.thn ∧ Walks 138 #[c1] TY f Ok w0 ws R x.els) : Walks 138 #[c1] TY f Ok w0 ws R l := by
  intro d s0 v w hok h hg0 hc0
  have HSL := Lib.hid h
  have HI := Lib.hid IH
  have HCL := Lib.hid hcl
  have HBEL : Hid (∀ W, ws.grownBy W (some R) → Bel w0 W) := Lib.hid fun W hg => grownBel hws hR hg
  obtain ⟨A, c, rfl, hll⟩ := sl_lit h
  have HC0 := Lib.hid hc0
  have HG0 := Lib.hid hg0
  have HT : Hid (walkL f (l.drop 0) d s0 = walkL f l d s0) := Lib.hid rfl
  have HO : Hid (okwL f Ok (l.drop 0) d s0) := Lib.hid hok
  have HRF : Hid (w.grownBy w (some R)) := Lib.hid (World.grownBy.refl _ _)
  clear IH hcl hc0 hg0 hok hws hR
  generalize walkL f l d s0 = T at *
  go_enter Try.func137, Try.ntmps137
  go_wp2
  go_loopw [11] (fun i wr => ∃ (j : Nat) (s : Int), i = .int .i64 j ∧ j ≤ l.length ∧ Hid (walkL f (l.drop j) d s = T) ∧ Hid (okwL f Ok (l.drop j) d s) ∧ Hid (w.grownBy wr (some R)) ∧ Hid (Blk wr R TY #[.int .i64 s])) (fun i _ => l.length - (intOf i).toNat)
  case atStart => exact ⟨0, s0, rfl, Nat.zero_le _, HT, HO, HRF, HC0⟩
  case round =>
    obtain ⟨j, s, rfl, hj, HS, HOK, HG, HC⟩ := hrel
    obtain ⟨WO, hWO⟩ : ∃ W, W = wr := ⟨_, rfl⟩
    subst hWO
    clear HT HO HRF HC0
    by_cases hlt : j < l.length
    rotate_left
    · have hdd : decide ((j : Int) < l.length) = false := decide_eq_false (by omega)
      have HR : Hid ((s, true) = T) := Lib.hid (by rw [← HS.out, walkL_end (by omega)])
      go_wp2
      go_ret
      exact walk_done HR.out HG.out HC.out
    have hdd : decide ((j : Int) < l.length) = true := decide_eq_true (by omega)
    obtain ⟨x, hx⟩ : ∃ x, l[j]? = some x := ⟨_, List.getElem?_eq_getElem hlt⟩
    obtain ⟨b, o, cs, rfl, hcs, hca⟩ := HSL.out.elem hx
    obtain ⟨hix1, hix2⟩ := HI.out x (List.mem_of_getElem? hx)
    have HI1 := Lib.hid hix1
    have HI2 := Lib.hid hix2
    obtain ⟨ho1, ho2⟩ := okwL_drop hx HOK.out
    obtain ⟨ho3, ho4⟩ := PC.okw_eq.1 ho1
    obtain ⟨hd0, hd6⟩ := hOk x d s ho3
    have HO2 := Lib.hid ho2
    have HO4 := Lib.hid ho4
    have HD := Lib.hid (fun W hg hb => HCL.out x d s cs W ho3 hcs hg hb)
    have HT : Hid ((thenW (thenW (f s x d) fun s1 => thenW (walkL f x.thn (d + 1) s1) fun s2 => walkL f x.els (d + 1) s2) fun s3 => walkL f (l.drop (j + 1)) d s3) = T) := Lib.hid (by rw [← HS.out, walkL_drop hx, PC.walk_eq])
    have HWK : Hid (x.walk f d s = thenW (f s x d) fun s1 => thenW (walkL f x.thn (d + 1) s1) fun s2 => walkL f x.els (d + 1) s2) := Lib.hid (PC.walk_eq f x d s)
    have HGW : Hid (ws.grownBy WO (some R)) := Lib.hid (HG0.out.trans HG.out)
    have HB := Lib.hid (HBEL.out _ HGW.out)
    have i0 : (0 : Int) ≤ j := by omega
    have i1 : (j : Int) < l.length := by omega
    have HCS := Lib.hid hcs
    have HCA := Lib.hid (hca.keep HB.out)
    have hRK := HC.out.lt
    clear hcs hca hx HS HI hix1 hix2 ho1 ho2 ho3 ho4 HOK
    go_upto_region 4 with (refine copyPC (.tmp 13) (.tmp 8) (.tmp 14) rfl rfl rfl rfl rfl rfl b (o + j * 12) (by exact rfl) cs HCA.out (HCS.out.keep HB.out) (by exact rfl) (by exact rfl) ?_)
    have HX : Hid (WO.grownBy (WO.alloc (.cells cs.toArray 120)) (some R)) := Lib.hid (((Bel.rfl_ WO).al (.cells cs.toArray 120)).grown _)
    have HK := Lib.hid (Blk.new WO 120 cs.toArray)
    replace HC := Lib.hid (HC.out.keep ((Bel.rfl_ WO).al (.cells cs.toArray 120)))
    obtain ⟨vi, ve, va, vt, vs, rfl, hsi, hse, hsa, hst, hsl⟩ := pcCells HCS.out
    clear HCS HCA
    generalize hW1 : WO.alloc _ = W1 at *
    clear hW1
    generalize WO.heap.size = K at *
    obtain ⟨At, ct, rfl, hlt1⟩ := sl_lit hst
    obtain ⟨Al, cl, rfl, hlt2⟩ := sl_lit hsl
    have HT1 := Lib.hid (fun s1 W (h : okwL f Ok x.thn (d + 1) s1) hg hb => HI1.out (d + 1) s1 _ W h hst hg hb)
    have HL1 := Lib.hid (fun s1 W (h : okwL f Ok x.els (d + 1) s1) hg hb => HI2.out (d + 1) s1 _ W h hsl hg hb)
    have hwd : IntKind.i64.wrap (d + 1) = d + 1 := by rw [IntKind.wrap_i64]; omega
    clear hsi hse hsa hst hsl HI1 HI2 HB
    have hKR : K ≠ R := by omega
    generalize x.kind = xk at *
    generalize x.var = xv at *
    generalize x.fn = xf at *
    generalize x.index.kind = ik at *
    generalize x.index.n = iN at *
    generalize x.expr.kind = ek at *
    generalize x.expr.n = eN at *
    refine wl_region ?_
    try dsimp only [List.append]
    refine wl_do (some 15) (.func (.func 138) #[] #[c1]) rfl (by kernel_rfl) (by kernel_rfl) ?_
    refine wl_do (some 16) (.agg #[.int .i64 xk, .int .i64 xv, .int .i64 xf, .int .i64 ik, .int .i64 iN, vi, .int .i64 ek, .int .i64 eN, ve, va, .slice At x.thn.length ct, .slice Al x.els.length cl]) rfl (by kernel_rfl) (run_loadRow 120 (.tmp 8) rfl elPC K 0 (by kernel_rfl) [.int .i64 xk, .int .i64 xv, .int .i64 xf, .int .i64 ik, .int .i64 iN, vi, .int .i64 ek, .int .i64 eN, ve, va, .slice At x.thn.length ct, .slice Al x.els.length cl] (blkRange HK.out 0 rfl) rfl (by kernel_rfl)) ?_
    refine wl_do (some 17) (.int .i64 d) rfl (by kernel_rfl) (by kernel_rfl) ?_
    refine wl_call (some 18) rfl (by kernel_rfl) 138 #[.agg #[.int .i64 xk, .int .i64 xv, .int .i64 xf, .int .i64 ik, .int .i64 iN, vi, .int .i64 ek, .int .i64 eN, ve, va, .slice At x.thn.length ct, .slice Al x.els.length cl], .int .i64 d, c1] (by kernel_rfl) (HD.out _ (HGW.out.trans HX.out) HC.out) ?_
    rintro r W3 ⟨rfl, hg, hm⟩
    replace HX := Lib.hid (HX.out.trans hg)
    replace HK := Lib.hid (HK.out.grown hg (by simpa using hKR))
    replace HC := Lib.hid hm
    clear hg hm
    refine ⟨_, rfl, ?_⟩
    rcases hfs : f s x d with ⟨s1, b1⟩
    rw [hfs] at HC HT HWK
    cases b1 with
    | false =>
      have HR : Hid ((s1, false) = T) := HT
      refine wl_many 19 _ [((some 19), .bool true), ((some 20), .bool true), ((some 21), undef), ((some 22), undef), ((some 23), undef), ((some 24), undef), ((some 25), undef), ((some 26), undef), ((some 27), undef), ((some 28), .bool true), ((some 29), .bool true), ((some 30), undef), ((some 31), undef), ((some 32), undef), ((some 33), undef), ((some 34), undef), ((some 35), undef), ((some 36), undef), ((some 37), .bool true)] rfl (by kernel_rfl) ?_
      refine wl_nil ?_
      try simp only [putAll, Act.put, List.setIfInBounds_toArray, List.set_cons_zero, List.set_cons_succ]
      go_wp2
      go_ret
      exact walk_done HR.out (HG.out.trans HX.out) HC.out
    | true =>
      have HOT := Lib.hid (HO4.out s1 hfs).1
      have HOE := Lib.hid (HO4.out s1 hfs).2
      refine wl_many 3 _ [((some 19), .bool false), ((some 20), .bool false), ((some 21), .pointer (some ⟨K, 10, none⟩))] rfl (by kernel_rfl) ?_
      refine wl_do (some 22) (.slice At x.thn.length ct) rfl (by kernel_rfl) (rl_cs rfl (by kernel_rfl) (HK.out.cell (i := 10) (v := .slice At x.thn.length ct) rfl)) ?_
      refine wl_do (some 23) (.int .i64 d) rfl (by kernel_rfl) (by kernel_rfl) ?_
      refine wl_do (some 24) (.int .i64 (d + 1)) rfl (by kernel_rfl) (Eq.trans (b := .ok (.value (.int .i64 (IntKind.i64.wrap (d + 1)))) _) (by kernel_rfl) (by rw [hwd])) ?_
      refine wl_do (some 25) (.func (.func 138) #[] #[c1]) rfl (by kernel_rfl) (by kernel_rfl) ?_
      refine wl_call (some 26) rfl (by kernel_rfl) 137 #[.slice At x.thn.length ct, .int .i64 (d + 1), .func (.func 138) #[] #[c1]] (by kernel_rfl) (HT1.out s1 _ HOT.out (HGW.out.trans HX.out) HC.out) ?_
      rintro r W3 ⟨rfl, hg, hm⟩
      replace HX := Lib.hid (HX.out.trans hg)
      replace HK := Lib.hid (HK.out.grown hg (by simpa using hKR))
      replace HC := Lib.hid hm
      clear hg hm
      refine ⟨_, rfl, ?_⟩
      rcases hft : walkL f x.thn (d + 1) s1 with ⟨s2, b2⟩
      rw [hft] at HC
      replace HT : Hid ((thenW (thenW (walkL f x.thn (d + 1) s1) fun s2 => walkL f x.els (d + 1) s2) fun s3 => walkL f (l.drop (j + 1)) d s3) = T) := HT
      replace HWK : Hid (x.walk f d s = thenW (walkL f x.thn (d + 1) s1) fun s2 => walkL f x.els (d + 1) s2) := HWK
      rw [hft] at HT HWK
      cases b2 with
      | false =>
        have HR : Hid ((s2, false) = T) := HT
        refine wl_many 11 _ [((some 27), .bool true), ((some 28), .bool true), ((some 29), .bool true), ((some 30), undef), ((some 31), undef), ((some 32), undef), ((some 33), undef), ((some 34), undef), ((some 35), undef), ((some 36), undef), ((some 37), .bool true)] rfl (by kernel_rfl) ?_
        refine wl_nil ?_
        try simp only [putAll, Act.put, List.setIfInBounds_toArray, List.set_cons_zero, List.set_cons_succ]
        go_wp2
        go_ret
        exact walk_done HR.out (HG.out.trans HX.out) HC.out
      | true =>
        have HOE2 := Lib.hid (HOE.out s2 hft)
        refine wl_many 4 _ [((some 27), .bool false), ((some 28), .bool false), ((some 29), .bool false), ((some 30), .pointer (some ⟨K, 11, none⟩))] rfl (by kernel_rfl) ?_
        refine wl_do (some 31) (.slice Al x.els.length cl) rfl (by kernel_rfl) (rl_cs rfl (by kernel_rfl) (HK.out.cell (i := 11) (v := .slice Al x.els.length cl) rfl)) ?_
        refine wl_do (some 32) (.int .i64 d) rfl (by kernel_rfl) (by kernel_rfl) ?_
        refine wl_do (some 33) (.int .i64 (d + 1)) rfl (by kernel_rfl) (Eq.trans (b := .ok (.value (.int .i64 (IntKind.i64.wrap (d + 1)))) _) (by kernel_rfl) (by rw [hwd])) ?_
        refine wl_do (some 34) (.func (.func 138) #[] #[c1]) rfl (by kernel_rfl) (by kernel_rfl) ?_
        refine wl_call (some 35) rfl (by kernel_rfl) 137 #[.slice Al x.els.length cl, .int .i64 (d + 1), .func (.func 138) #[] #[c1]] (by kernel_rfl) (HL1.out s2 _ HOE2.out (HGW.out.trans HX.out) HC.out) ?_
        rintro r W3 ⟨rfl, hg, hm⟩
        replace HX := Lib.hid (HX.out.trans hg)
        replace HK := Lib.hid (HK.out.grown hg (by simpa using hKR))
        replace HC := Lib.hid hm
        clear hg hm
        refine ⟨_, rfl, ?_⟩
        replace HT : Hid ((thenW (walkL f x.els (d + 1) s2) fun s3 => walkL f (l.drop (j + 1)) d s3) = T) := HT
        replace HWK : Hid (x.walk f d s = walkL f x.els (d + 1) s2) := HWK
        rcases hfe : walkL f x.els (d + 1) s2 with ⟨s3, b3⟩
        rw [hfe] at HC HT HWK
        cases b3 with
        | false =>
          have HR : Hid ((s3, false) = T) := HT
          refine wl_many 2 _ [((some 36), .bool true), ((some 37), .bool true)] rfl (by kernel_rfl) ?_
          refine wl_nil ?_
          try simp only [putAll, Act.put, List.setIfInBounds_toArray, List.set_cons_zero, List.set_cons_succ]
          go_wp2
          go_ret
          exact walk_done HR.out (HG.out.trans HX.out) HC.out
        | true =>
          replace HT : Hid (walkL f (l.drop (j + 1)) d s3 = T) := HT
          have HON := Lib.hid (HO2.out s3 HWK.out)
          refine wl_many 2 _ [((some 36), .bool false), ((some 37), .bool false)] rfl (by kernel_rfl) ?_
          refine wl_nil ?_
          try simp only [putAll, Act.put, List.setIfInBounds_toArray, List.set_cons_zero, List.set_cons_succ]
          go_wp2
          go_roundw
          case rel => exact ⟨j + 1, s3, by go_num, by omega, HT, HON, Lib.hid (HG.out.trans HX.out), HC⟩
          case measure => simp [intOf]; omega
/-- Walk, whatever the list -/
theorem walk_anyF (c1 : Value) (TY : TypeId) (f : Int → PC → Int → Int × Bool) (Ok : PC → Int → Int → Prop) (hOk : ∀ x d s, Ok x d s → 0 ≤ d ∧ d ≤ 6) (w0 ws : World) (R : Nat) (hR : w0.heap.size ≤ R) (hws : Bel w0 ws) (hcl : Does 138 #[c1] TY f Ok w0 ws R) (l : List PC) : Walks 138 #[c1] TY f Ok w0 ws R l :=
  walk_stepF c1 TY f Ok hOk w0 ws R hR hws hcl l fun x _ => PC.ind2 (p := fun x => Walks 138 #[c1] TY f Ok w0 ws R x.thn ∧ Walks 138 #[c1] TY f Ok w0 ws R x.els)
    (fun x h1 h2 => ⟨walk_stepF c1 TY f Ok hOk w0 ws R hR hws hcl x.thn h1, walk_stepF c1 TY f Ok hOk w0 ws R hR hws hcl x.els h2⟩) x
set_option maxRecDepth 20000 in
set_option maxHeartbeats 8000000 in
theorem walk_stepC (c1 : Value) (c2 : Value) (TY : TypeId) (f : Int → PC → Int → Int × Bool) (Ok : PC → Int → Int → Prop) (hOk : ∀ x d s, Ok x d s → 0 ≤ d ∧ d ≤ 6) (w0 ws : World) (R : Nat) (hR : w0.heap.size ≤ R) (hws : Bel w0 ws) (hcl : Does 140 #[c1, c2] TY f Ok w0 ws R)
    (l : List PC) (IH : ∀ x ∈ l, Walks 140 #[c1, c2] TY f Ok w0 ws R x.thn ∧ Walks 140 #[c1, c2] TY f Ok w0 ws R x.els) : Walks 140 #[c1, c2] TY f Ok w0 ws R l := by
  intro d s0 v w hok h hg0 hc0
  have HSL := Lib.hid h
  have HI := Lib.hid IH
  have HCL := Lib.hid hcl
  have HBEL : Hid (∀ W, ws.grownBy W (some R) → Bel w0 W) := Lib.hid fun W hg => grownBel hws hR hg
  obtain ⟨A, c, rfl, hll⟩ := sl_lit h
  have HC0 := Lib.hid hc0
  have HG0 := Lib.hid hg0
  have HT : Hid (walkL f (l.drop 0) d s0 = walkL f l d s0) := Lib.hid rfl
  have HO : Hid (okwL f Ok (l.drop 0) d s0) := Lib.hid hok
  have HRF : Hid (w.grownBy w (some R)) := Lib.hid (World.grownBy.refl _ _)
  clear IH hcl hc0 hg0 hok hws hR
  generalize walkL f l d s0 = T at *
  go_enter Try.func137, Try.ntmps137
  go_wp2
  go_loopw [11] (fun i wr => ∃ (j : Nat) (s : Int), i = .int .i64 j ∧ j ≤ l.length ∧ Hid (walkL f (l.drop j) d s = T) ∧ Hid (okwL f Ok (l.drop j) d s) ∧ Hid (w.grownBy wr (some R)) ∧ Hid (Blk wr R TY #[.int .i64 s])) (fun i _ => l.length - (intOf i).toNat)
  case atStart => exact ⟨0, s0, rfl, Nat.zero_le _, HT, HO, HRF, HC0⟩
  case round =>
    obtain ⟨j, s, rfl, hj, HS, HOK, HG, HC⟩ := hrel
    obtain ⟨WO, hWO⟩ : ∃ W, W = wr := ⟨_, rfl⟩
    subst hWO
    clear HT HO HRF HC0
    by_cases hlt : j < l.length
    rotate_left
    · have hdd : decide ((j : Int) < l.length) = false := decide_eq_false (by omega)
      have HR : Hid ((s, true) = T) := Lib.hid (by rw [← HS.out, walkL_end (by omega)])
      go_wp2
      go_ret
      exact walk_done HR.out HG.out HC.out
    have hdd : decide ((j : Int) < l.length) = true := decide_eq_true (by omega)
    obtain ⟨x, hx⟩ : ∃ x, l[j]? = some x := ⟨_, List.getElem?_eq_getElem hlt⟩
    obtain ⟨b, o, cs, rfl, hcs, hca⟩ := HSL.out.elem hx
    obtain ⟨hix1, hix2⟩ := HI.out x (List.mem_of_getElem? hx)
    have HI1 := Lib.hid hix1
    have HI2 := Lib.hid hix2
    obtain ⟨ho1, ho2⟩ := okwL_drop hx HOK.out
    obtain ⟨ho3, ho4⟩ := PC.okw_eq.1 ho1
    obtain ⟨hd0, hd6⟩ := hOk x d s ho3
    have HO2 := Lib.hid ho2
    have HO4 := Lib.hid ho4
    have HD := Lib.hid (fun W hg hb => HCL.out x d s cs W ho3 hcs hg hb)
    have HT : Hid ((thenW (thenW (f s x d) fun s1 => thenW (walkL f x.thn (d + 1) s1) fun s2 => walkL f x.els (d + 1) s2) fun s3 => walkL f (l.drop (j + 1)) d s3) = T) := Lib.hid (by rw [← HS.out, walkL_drop hx, PC.walk_eq])
    have HWK : Hid (x.walk f d s = thenW (f s x d) fun s1 => thenW (walkL f x.thn (d + 1) s1) fun s2 => walkL f x.els (d + 1) s2) := Lib.hid (PC.walk_eq f x d s)
    have HGW : Hid (ws.grownBy WO (some R)) := Lib.hid (HG0.out.trans HG.out)
    have HB := Lib.hid (HBEL.out _ HGW.out)
    have i0 : (0 : Int) ≤ j := by omega
    have i1 : (j : Int) < l.length := by omega
    have HCS := Lib.hid hcs
    have HCA := Lib.hid (hca.keep HB.out)
    have hRK := HC.out.lt
    clear hcs hca hx HS HI hix1 hix2 ho1 ho2 ho3 ho4 HOK
    go_upto_region 4 with (refine copyPC (.tmp 13) (.tmp 8) (.tmp 14) rfl rfl rfl rfl rfl rfl b (o + j * 12) (by exact rfl) cs HCA.out (HCS.out.keep HB.out) (by exact rfl) (by exact rfl) ?_)
    have HX : Hid (WO.grownBy (WO.alloc (.cells cs.toArray 120)) (some R)) := Lib.hid (((Bel.rfl_ WO).al (.cells cs.toArray 120)).grown _)
    have HK := Lib.hid (Blk.new WO 120 cs.toArray)
    replace HC := Lib.hid (HC.out.keep ((Bel.rfl_ WO).al (.cells cs.toArray 120)))
    obtain ⟨vi, ve, va, vt, vs, rfl, hsi, hse, hsa, hst, hsl⟩ := pcCells HCS.out
    clear HCS HCA
    generalize hW1 : WO.alloc _ = W1 at *
    clear hW1
    generalize WO.heap.size = K at *
    obtain ⟨At, ct, rfl, hlt1⟩ := sl_lit hst
    obtain ⟨Al, cl, rfl, hlt2⟩ := sl_lit hsl
    have HT1 := Lib.hid (fun s1 W (h : okwL f Ok x.thn (d + 1) s1) hg hb => HI1.out (d + 1) s1 _ W h hst hg hb)
    have HL1 := Lib.hid (fun s1 W (h : okwL f Ok x.els (d + 1) s1) hg hb => HI2.out (d + 1) s1 _ W h hsl hg hb)
    have hwd : IntKind.i64.wrap (d + 1) = d + 1 := by rw [IntKind.wrap_i64]; omega
    clear hsi hse hsa hst hsl HI1 HI2 HB
    have hKR : K ≠ R := by omega
    generalize x.kind = xk at *
    generalize x.var = xv at *
    generalize x.fn = xf at *
    generalize x.index.kind = ik at *
    generalize x.index.n = iN at *
    generalize x.expr.kind = ek at *
    generalize x.expr.n = eN at *
    refine wl_region ?_
    try dsimp only [List.append]
    refine wl_do (some 15) (.func (.func 140) #[] #[c1, c2]) rfl (by kernel_rfl) (by kernel_rfl) ?_
    refine wl_do (some 16) (.agg #[.int .i64 xk, .int .i64 xv, .int .i64 xf, .int .i64 ik, .int .i64 iN, vi, .int .i64 ek, .int .i64 eN, ve, va, .slice At x.thn.length ct, .slice Al x.els.length cl]) rfl (by kernel_rfl) (run_loadRow 120 (.tmp 8) rfl elPC K 0 (by kernel_rfl) [.int .i64 xk, .int .i64 xv, .int .i64 xf, .int .i64 ik, .int .i64 iN, vi, .int .i64 ek, .int .i64 eN, ve, va, .slice At x.thn.length ct, .slice Al x.els.length cl] (blkRange HK.out 0 rfl) rfl (by kernel_rfl)) ?_
    refine wl_do (some 17) (.int .i64 d) rfl (by kernel_rfl) (by kernel_rfl) ?_
    refine wl_call (some 18) rfl (by kernel_rfl) 140 #[.agg #[.int .i64 xk, .int .i64 xv, .int .i64 xf, .int .i64 ik, .int .i64 iN, vi, .int .i64 ek, .int .i64 eN, ve, va, .slice At x.thn.length ct, .slice Al x.els.length cl], .int .i64 d, c1, c2] (by kernel_rfl) (HD.out _ (HGW.out.trans HX.out) HC.out) ?_
    rintro r W3 ⟨rfl, hg, hm⟩
    replace HX := Lib.hid (HX.out.trans hg)
    replace HK := Lib.hid (HK.out.grown hg (by simpa using hKR))
    replace HC := Lib.hid hm
    clear hg hm
    refine ⟨_, rfl, ?_⟩
    rcases hfs : f s x d with ⟨s1, b1⟩
    rw [hfs] at HC HT HWK
    cases b1 with
    | false =>
      have HR : Hid ((s1, false) = T) := HT
      refine wl_many 19 _ [((some 19), .bool true), ((some 20), .bool true), ((some 21), undef), ((some 22), undef), ((some 23), undef), ((some 24), undef), ((some 25), undef), ((some 26), undef), ((some 27), undef), ((some 28), .bool true), ((some 29), .bool true), ((some 30), undef), ((some 31), undef), ((some 32), undef), ((some 33), undef), ((some 34), undef), ((some 35), undef), ((some 36), undef), ((some 37), .bool true)] rfl (by kernel_rfl) ?_
      refine wl_nil ?_
      try simp only [putAll, Act.put, List.setIfInBounds_toArray, List.set_cons_zero, List.set_cons_succ]
      go_wp2
      go_ret
      exact walk_done HR.out (HG.out.trans HX.out) HC.out
    | true =>
      have HOT := Lib.hid (HO4.out s1 hfs).1
      have HOE := Lib.hid (HO4.out s1 hfs).2
      refine wl_many 3 _ [((some 19), .bool false), ((some 20), .bool false), ((some 21), .pointer (some ⟨K, 10, none⟩))] rfl (by kernel_rfl) ?_
      refine wl_do (some 22) (.slice At x.thn.length ct) rfl (by kernel_rfl) (rl_cs rfl (by kernel_rfl) (HK.out.cell (i := 10) (v := .slice At x.thn.length ct) rfl)) ?_
      refine wl_do (some 23) (.int .i64 d) rfl (by kernel_rfl) (by kernel_rfl) ?_
      refine wl_do (some 24) (.int .i64 (d + 1)) rfl (by kernel_rfl) (Eq.trans (b := .ok (.value (.int .i64 (IntKind.i64.wrap (d + 1)))) _) (by kernel_rfl) (by rw [hwd])) ?_
      refine wl_do (some 25) (.func (.func 140) #[] #[c1, c2]) rfl (by kernel_rfl) (by kernel_rfl) ?_
      refine wl_call (some 26) rfl (by kernel_rfl) 137 #[.slice At x.thn.length ct, .int .i64 (d + 1), .func (.func 140) #[] #[c1, c2]] (by kernel_rfl) (HT1.out s1 _ HOT.out (HGW.out.trans HX.out) HC.out) ?_
      rintro r W3 ⟨rfl, hg, hm⟩
      replace HX := Lib.hid (HX.out.trans hg)
      replace HK := Lib.hid (HK.out.grown hg (by simpa using hKR))
      replace HC := Lib.hid hm
      clear hg hm
      refine ⟨_, rfl, ?_⟩
      rcases hft : walkL f x.thn (d + 1) s1 with ⟨s2, b2⟩
      rw [hft] at HC
      replace HT : Hid ((thenW (thenW (walkL f x.thn (d + 1) s1) fun s2 => walkL f x.els (d + 1) s2) fun s3 => walkL f (l.drop (j + 1)) d s3) = T) := HT
      replace HWK : Hid (x.walk f d s = thenW (walkL f x.thn (d + 1) s1) fun s2 => walkL f x.els (d + 1) s2) := HWK
      rw [hft] at HT HWK
      cases b2 with
      | false =>
        have HR : Hid ((s2, false) = T) := HT
        refine wl_many 11 _ [((some 27), .bool true), ((some 28), .bool true), ((some 29), .bool true), ((some 30), undef), ((some 31), undef), ((some 32), undef), ((some 33), undef), ((some 34), undef), ((some 35), undef), ((some 36), undef), ((some 37), .bool true)] rfl (by kernel_rfl) ?_
        refine wl_nil ?_
        try simp only [putAll, Act.put, List.setIfInBounds_toArray, List.set_cons_zero, List.set_cons_succ]
        go_wp2
        go_ret
        exact walk_done HR.out (HG.out.trans HX.out) HC.out
      | true =>
        have HOE2 := Lib.hid (HOE.out s2 hft)
        refine wl_many 4 _ [((some 27), .bool false), ((some 28), .bool false), ((some 29), .bool false), ((some 30), .pointer (some ⟨K, 11, none⟩))] rfl (by kernel_rfl) ?_
        refine wl_do (some 31) (.slice Al x.els.length cl) rfl (by kernel_rfl) (rl_cs rfl (by kernel_rfl) (HK.out.cell (i := 11) (v := .slice Al x.els.length cl) rfl)) ?_
        refine wl_do (some 32) (.int .i64 d) rfl (by kernel_rfl) (by kernel_rfl) ?_
        refine wl_do (some 33) (.int .i64 (d + 1)) rfl (by kernel_rfl) (Eq.trans (b := .ok (.value (.int .i64 (IntKind.i64.wrap (d + 1)))) _) (by kernel_rfl) (by rw [hwd])) ?_
        refine wl_do (some 34) (.func (.func 140) #[] #[c1, c2]) rfl (by kernel_rfl) (by kernel_rfl) ?_
        refine wl_call (some 35) rfl (by kernel_rfl) 137 #[.slice Al x.els.length cl, .int .i64 (d + 1), .func (.func 140) #[] #[c1, c2]] (by kernel_rfl) (HL1.out s2 _ HOE2.out (HGW.out.trans HX.out) HC.out) ?_
        rintro r W3 ⟨rfl, hg, hm⟩
        replace HX := Lib.hid (HX.out.trans hg)
        replace HK := Lib.hid (HK.out.grown hg (by simpa using hKR))
        replace HC := Lib.hid hm
        clear hg hm
        refine ⟨_, rfl, ?_⟩
        replace HT : Hid ((thenW (walkL f x.els (d + 1) s2) fun s3 => walkL f (l.drop (j + 1)) d s3) = T) := HT
        replace HWK : Hid (x.walk f d s = walkL f x.els (d + 1) s2) := HWK
        rcases hfe : walkL f x.els (d + 1) s2 with ⟨s3, b3⟩
        rw [hfe] at HC HT HWK
        cases b3 with
        | false =>
          have HR : Hid ((s3, false) = T) := HT
          refine wl_many 2 _ [((some 36), .bool true), ((some 37), .bool true)] rfl (by kernel_rfl) ?_
          refine wl_nil ?_
          try simp only [putAll, Act.put, List.setIfInBounds_toArray, List.set_cons_zero, List.set_cons_succ]
          go_wp2
          go_ret
          exact walk_done HR.out (HG.out.trans HX.out) HC.out
        | true =>
          replace HT : Hid (walkL f (l.drop (j + 1)) d s3 = T) := HT
          have HON := Lib.hid (HO2.out s3 HWK.out)
          refine wl_many 2 _ [((some 36), .bool false), ((some 37), .bool false)] rfl (by kernel_rfl) ?_
          refine wl_nil ?_
          try simp only [putAll, Act.put, List.setIfInBounds_toArray, List.set_cons_zero, List.set_cons_succ]
          go_wp2
          go_roundw
          case rel => exact ⟨j + 1, s3, by go_num, by omega, HT, HON, Lib.hid (HG.out.trans HX.out), HC⟩
          case measure => simp [intOf]; omega
/-- Walk, whatever the list -/
theorem walk_anyC (c1 : Value) (c2 : Value) (TY : TypeId) (f : Int → PC → Int → Int × Bool) (Ok : PC → Int → Int → Prop) (hOk : ∀ x d s, Ok x d s → 0 ≤ d ∧ d ≤ 6) (w0 ws : World) (R : Nat) (hR : w0.heap.size ≤ R) (hws : Bel w0 ws) (hcl : Does 140 #[c1, c2] TY f Ok w0 ws R) (l : List PC) : Walks 140 #[c1, c2] TY f Ok w0 ws R l :=
  walk_stepC c1 c2 TY f Ok hOk w0 ws R hR hws hcl l fun x _ => PC.ind2 (p := fun x => Walks 140 #[c1, c2] TY f Ok w0 ws R x.thn ∧ Walks 140 #[c1, c2] TY f Ok w0 ws R x.els)
    (fun x h1 h2 => ⟨walk_stepC c1 c2 TY f Ok hOk w0 ws R hR hws hcl x.thn h1, walk_stepC c1 c2 TY f Ok hOk w0 ws R hR hws hcl x.els h2⟩) x
end Go.Proofs.Ytgkpplbomciehaa
