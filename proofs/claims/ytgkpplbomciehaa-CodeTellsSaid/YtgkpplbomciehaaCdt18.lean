/- A command by itself, by the program: walked. Each lemma states its own conditions. -/
import Derived.Test.YtgkpplbomciehaaCdt17
import Derived.Deep.CutBlock
namespace Go.Proofs.Ytgkpplbomciehaa
open Go.RowKit
theorem per_of {w : World} {e : PE} {v : Value} (h : Sl peR w v e.args) : PER w e [.int .i64 e.kind, .int .i64 e.n, v] := by
  cases e
  exact PER.shut h
/-- what is wrong with a command's form -/
def formP (pms : List Int) (x : PC) : Int :=
  if (x.kind ≠ 2 ∧ x.index.none_ = false) ∨ ((x.kind = 3 ∨ x.kind = 4) ∧ x.expr.none_ = false) ∨ (x.kind ≠ 3 ∧ 0 < x.args.length) ∨ (x.kind < 6 ∧ 0 < x.thn.length) ∨ (x.kind ≠ 6 ∧ 0 < x.els.length) then 1
  else if x.kind = 3 ∧ (x.args.length : Int) ≠ pms.getD x.fn.toNat 0 then 1 else 0
/-- the expressions ahead of the arguments -/
def ownE (x : PC) : List PE := (if x.kind = 2 then [x.index] else []) ++ (if x.kind ≠ 3 ∧ x.kind ≠ 4 then [x.expr] else [])
theorem errPs_app (z : List Int) : ∀ a b : List PE, errPs z (a ++ b) = orE (errPs z a) (errPs z b)
  | [], b => by rw [List.nil_append, errPs, orE_z]
  | x :: a, b => by rw [List.cons_append, errPs, errPs, errPs_app z a b, orE_assoc]
theorem own_eq {pms z : List Int} {calls : Int} {x : PC} (h1 : 1 ≤ x.kind) (h7 : x.kind ≤ 7) : x.own pms z calls = orE (nameP z calls x) (orE (formP pms x) (errPs z (ownE x ++ x.args))) := by
  have he : errPs z (ownE x ++ x.args) = orE (if x.kind = 2 then x.index.err z else 0) (orE (if x.kind ≠ 3 ∧ x.kind ≠ 4 then x.expr.err z else 0) (errPs z x.args)) := by
    unfold ownE
    rw [errPs_app, errPs_app, orE_assoc]
    congr 1
    · split
      · rw [errPs, errPs, orE_zero]
      · rw [errPs]
    · congr 1
      split
      · rw [errPs, errPs, orE_zero]
      · rw [errPs]
  rw [he]
  unfold PC.own nameP formP
  rw [if_neg (by omega)]
  by_cases a1 : (x.kind ≤ 4 ∧ ¬ (0 ≤ x.var ∧ x.var < z.length)) ∨ (x.kind = 3 ∧ ¬ (0 ≤ x.fn ∧ x.fn < calls))
  · rw [if_pos a1, if_pos a1, orE_n (by decide)]
  rw [if_neg a1, if_neg a1]
  by_cases a2 : x.kind ≤ 4 ∧ (0 < z.getD x.var.toNat 0 ∧ x.kind ≠ 2 ∨ z.getD x.var.toNat 0 = 0 ∧ x.kind = 2)
  · rw [if_pos a2, if_pos a2, orE_n (by decide)]
  rw [if_neg a2, if_neg a2]
  by_cases a3 : (4 < x.kind ∧ x.var ≠ 0) ∨ (x.kind ≠ 3 ∧ x.fn ≠ 0)
  · rw [if_pos a3, orE_n (a := 1) (by decide), if_pos (by rcases a3 with h | h; exact Or.inl h; exact Or.inr (Or.inl h))]
  rw [if_neg a3, orE_z]
  by_cases a4 : (x.kind ≠ 2 ∧ x.index.none_ = false) ∨ ((x.kind = 3 ∨ x.kind = 4) ∧ x.expr.none_ = false) ∨ (x.kind ≠ 3 ∧ 0 < x.args.length) ∨ (x.kind < 6 ∧ 0 < x.thn.length) ∨ (x.kind ≠ 6 ∧ 0 < x.els.length)
  · rw [if_pos a4, orE_n (a := 1) (by decide), if_pos (Or.inr (Or.inr a4))]
  rw [if_neg a4, if_neg (by rintro (h | h | h); exact a3 (Or.inl h); exact a3 (Or.inr h); exact a4 h)]
  by_cases a5 : x.kind = 3 ∧ (x.args.length : Int) ≠ pms.getD x.fn.toNat 0
  · rw [if_pos a5, if_pos a5, orE_n (by decide)]
  · rw [if_neg a5, if_neg a5, orE_z]
theorem errPs_drop {z : List Int} {l : List PE} {k : Nat} {x : PE} (hx : l[k]? = some x) : errPs z (l.drop k) = orE (x.err z) (errPs z (l.drop (k + 1))) := by
  obtain ⟨hl, rfl⟩ := List.getElem?_eq_some_iff.1 hx
  rw [List.drop_eq_getElem_cons hl, errPs]
theorem errPs_end {z : List Int} {l : List PE} {k : Nat} (h : l.length ≤ k) : errPs z (l.drop k) = 0 := by rw [List.drop_eq_nil_of_le h, errPs]
theorem RowE.flat {w0 w : World} {B : Nat} {v : Value} {xs : List PE} (h : RowE w0 w B v xs) : ∃ A c cells, v = .slice A xs.length c ∧ (A = none → c = 0) ∧ cells.length = xs.length * 3 ∧ (∀ u ∈ cells, u.oneCell' = true) ∧ (0 < xs.length → ∃ b o, A = some ⟨b, o, none⟩ ∧ CellsAt w b o cells) ∧ ∀ (i : Nat) (x : PE), xs[i]? = some x → PER w0 x ((cells.drop (i * 3)).take 3) := by
  obtain ⟨cells, h1, h2, h3⟩ := h
  rcases Nat.eq_zero_or_pos xs.length with h0 | h0
  · rcases h1.2 with ⟨rfl, _⟩ | ⟨g, cap, cur, rfl, _⟩
    · exact ⟨none, 0, cells, by rw [h0], fun _ => rfl, h1.1, h2, fun h => by omega, h3⟩
    · exact ⟨_, _, cells, rfl, (fun h => by cases h), h1.1, h2, fun h => by omega, h3⟩
  · obtain ⟨g, cap, rfl, -, -, -, hcell, -⟩ := own_lies h1 h0
    exact ⟨_, _, cells, rfl, (fun h => by cases h), h1.1, h2, fun _ => ⟨g, 0, rfl, fun j u hu => by rw [Nat.zero_add]; exact hcell j u hu⟩, h3⟩
theorem PER.chunk {w0 : World} {e : PE} {cs : List Value} (he : PER w0 e cs) : ∀ (i : Nat) (x : PE), [e][i]? = some x → PER w0 x ((cs.drop (i * 3)).take 3) := fun i x hx => by
  have h0 : i = 0 := by have := (List.getElem?_eq_some_iff.1 hx).1; simp at this; omega
  subst h0
  obtain rfl := Option.some.inj hx
  have hl : cs.length = 3 := peR.len he
  rw [Nat.zero_mul, List.drop_zero, List.take_of_length_le (by omega)]
  exact he
theorem RowE.one {w0 w : World} {B : Nat} {v : Value} {e : PE} {cs : List Value} (h : w.ownsRow B 47 3 v 1 cs) (he : PER w0 e cs) : RowE w0 w B v [e] := by
  refine ⟨cs, h, peR_one he, fun i x hx => ?_⟩
  have h0 : i = 0 := by have := (List.getElem?_eq_some_iff.1 hx).1; simp at this; omega
  subst h0
  obtain rfl := Option.some.inj hx
  have hl : cs.length = 3 := peR.len he
  rw [Nat.zero_mul, List.drop_zero, List.take_of_length_le (by omega)]
  exact he
theorem RowE.keep {w0 w w' : World} {B : Nat} {v : Value} {xs : List PE} (h : RowE w0 w B v xs) (hb : Bel w w') : RowE w0 w' B v xs := by
  obtain ⟨cells, h1, h2, h3⟩ := h
  exact ⟨cells, hb.own h1, h2, h3⟩
/-- cells of an elder slice in a later world -/
theorem Sl.flatE {w0 w : World} {A : Option Addr} {c : Nat} {xs : List PE} (h : Sl peR w0 (.slice A xs.length c) xs) (hb : Bel w0 w) : ∃ A' c' cells, (.slice A xs.length c : Value) = .slice A' xs.length c' ∧ (A' = none → c' = 0) ∧ cells.length = xs.length * 3 ∧ (∀ u ∈ cells, u.oneCell' = true) ∧ (0 < xs.length → ∃ b o, A' = some ⟨b, o, none⟩ ∧ CellsAt w b o cells) ∧ ∀ (i : Nat) (x : PE), xs[i]? = some x → PER w0 x ((cells.drop (i * 3)).take 3) := by
  obtain ⟨A', c', cells, h1, h2, h3, h4, h5, h6⟩ := h.flat (fun cs x hx => peR_one hx)
  exact ⟨A', c', cells, h1, h2, h3, h4, fun hp => (h5 hp).elim fun b q => q.elim fun o q => ⟨b, o, q.1, q.2.keep hb⟩, h6⟩
theorem ownE_len (x : PC) : (ownE x).length ≤ 2 := by
  unfold ownE
  split <;> split <;> simp
set_option maxRecDepth 20000 in
set_option maxHeartbeats 32000000 in
theorem cmd_any (w0 w : World) (ps : List PF) (f : PF) (calls : Int) (g : Nat) (x : PC) (cs : List Value) (h : ChkM w0 w ps f calls g) (hb0 : Bel w0 w) (hz0 : ∀ n ∈ f.sizes, 0 ≤ n) (hcl : calls ≤ (ps.length : Int)) (hps : ∀ (i : Nat) gg, ps[i]? = some gg → (i : Int) < calls → gg.params ≤ 3) (hx : PCR w0 x cs) :
    Calls Try.prog 141 #[.pointer (some ⟨g, 0, none⟩), .agg cs.toArray] w fun r w' => r = .returned (.int .i64 (x.own (ps.map PF.params) f.sizes calls)) ∧ Bel w w' := by
  have HNA := Lib.hid (fun W (hb : Bel w W) => names_any w0 W ps f calls g x cs (h.keep hb) (hb0.tr hb) hz0 hx)
  have HPX := Lib.hid hx
  obtain ⟨vp, vz, vc, vr, hbk, hvp, hz, hc, hr⟩ := h.cells
  obtain ⟨vi, ve, va, vt, vs, rfl, hsi, hse, hsa, hst, hsl⟩ := pcCells hx
  have HIX : Hid (PER w0 x.index [.int .i64 x.index.kind, .int .i64 x.index.n, vi]) := Lib.hid (per_of hsi)
  have HEX : Hid (PER w0 x.expr [.int .i64 x.expr.kind, .int .i64 x.expr.n, ve]) := Lib.hid (per_of hse)
  have HNI := Lib.hid (fun W (hb : Bel w0 W) => none_any x.index (.agg #[.int .i64 x.index.kind, .int .i64 x.index.n, vi]) W ⟨_, rfl, hsi.keep hb⟩)
  have HNE := Lib.hid (fun W (hb : Bel w0 W) => none_any x.expr (.agg #[.int .i64 x.expr.kind, .int .i64 x.expr.n, ve]) W ⟨_, rfl, hse.keep hb⟩)
  have HEE := Lib.hid (fun (e : PE) val W (hb : Bel w0 W) (he : PEV W e val) => expr_any f.sizes hz0 e val vz W he (hz.keep hb))
  have HVP := Lib.hid hvp
  have HSA := Lib.hid hsa
  obtain ⟨Az, cz, rfl, -⟩ := sl_lit hz
  obtain ⟨Ac, cc, rfl, -⟩ := sl_lit hc
  obtain ⟨Ar, cr, rfl, -⟩ := sl_lit hr
  obtain ⟨Ap, cp, rfl, hpl⟩ := sl_lit hvp
  obtain ⟨Ai, ci, rfl, -⟩ := sl_lit hsi
  obtain ⟨Ae, ce, rfl, -⟩ := sl_lit hse
  obtain ⟨Aa, ca, rfl, hal⟩ := sl_lit hsa
  obtain ⟨At, ct, rfl, htl⟩ := sl_lit hst
  obtain ⟨Al, cl, rfl, hll⟩ := sl_lit hsl
  have HBK := Lib.hid hbk
  have HB0 := Lib.hid hb0
  have HPS := Lib.hid hps
  have HCL := Lib.hid hcl
  clear h hbk hvp hz hc hr hx hb0 hz0 hps hcl hsi hse hsa hst hsl
  have HX : Hid (Bel w (w.alloc (.cells #[.int .i64 x.kind, .int .i64 x.var, .int .i64 x.fn, .int .i64 x.index.kind, .int .i64 x.index.n, .slice Ai x.index.args.length ci, .int .i64 x.expr.kind, .int .i64 x.expr.n, .slice Ae x.expr.args.length ce, .slice Aa x.args.length ca, .slice At x.thn.length ct, .slice Al x.els.length cl] 120))) := Lib.hid ((Bel.rfl_ w).al _)
  have HK := Lib.hid (Blk.new w 120 #[.int .i64 x.kind, .int .i64 x.var, .int .i64 x.fn, .int .i64 x.index.kind, .int .i64 x.index.n, .slice Ai x.index.args.length ci, .int .i64 x.expr.kind, .int .i64 x.expr.n, .slice Ae x.expr.args.length ce, .slice Aa x.args.length ca, .slice At x.thn.length ct, .slice Al x.els.length cl])
  have HT : Hid (x.own (ps.map PF.params) f.sizes calls = if x.kind < 1 ∨ 7 < x.kind then 7 else orE (nameP f.sizes calls x) (orE (formP (ps.map PF.params) x) (errPs f.sizes (ownE x ++ x.args)))) := Lib.hid (by
    by_cases h : x.kind < 1 ∨ 7 < x.kind
    · rw [if_pos h, PC.own, if_pos h]
    · rw [if_neg h, own_eq (by omega) (by omega)])
  have HFO : Hid (formP (ps.map PF.params) x = if (x.kind ≠ 2 ∧ x.index.none_ = false) ∨ ((x.kind = 3 ∨ x.kind = 4) ∧ x.expr.none_ = false) ∨ (x.kind ≠ 3 ∧ 0 < x.args.length) ∨ (x.kind < 6 ∧ 0 < x.thn.length) ∨ (x.kind ≠ 6 ∧ 0 < x.els.length) then 1 else if x.kind = 3 ∧ (x.args.length : Int) ≠ (ps.map PF.params).getD x.fn.toNat 0 then 1 else 0) := Lib.hid rfl
  have HNP : Hid (nameP f.sizes calls x = 0 → x.kind = 3 → 0 ≤ x.fn ∧ x.fn < calls) := Lib.hid (by
    intro h h3
    unfold nameP at h
    split at h
    · omega
    · omega)
  have HOE : Hid (ownE x = (if x.kind = 2 then [x.index] else []) ++ (if x.kind ≠ 3 ∧ x.kind ≠ 4 then [x.expr] else [])) := Lib.hid rfl
  have hol := ownE_len x
  generalize x.own (ps.map PF.params) f.sizes calls = T at *
  generalize hFP : formP (ps.map PF.params) x = FP at *
  generalize hNP : nameP f.sizes calls x = NP at *
  generalize hES : errPs f.sizes (ownE x ++ x.args) = ES at *
  generalize hNI : x.index.none_ = NI at *
  generalize hNE : x.expr.none_ = NE at *
  generalize x.index.kind = ik at *
  generalize x.index.n = iN at *
  generalize x.expr.kind = ek at *
  generalize x.expr.n = eN at *
  generalize hxk : x.kind = k at *
  generalize x.var = xv at *
  generalize hxf : x.fn = xf at *
  generalize f.result.kind = rk at *
  generalize f.result.n = rn at *
  generalize f.params = fp at *
  have k0 := HK.out.cell (i := 0) (v := .int .i64 k) rfl
  go_enter Try.func141, Try.ntmps141
  by_cases hk : k < 1 ∨ 7 < k
  · have HR : Hid (T = 7) := Lib.hid (by rw [HT.out, if_pos hk])
    by_cases hk1 : k < 1
    · have dk : decide (k < 1) = true := decide_eq_true hk1
      go_wp2
      go_ret
      exact ⟨by rw [HR.out]; rfl, HX.out⟩
    · have dk : decide (k < 1) = false := decide_eq_false hk1
      have dk7 : decide (k > 7) = true := decide_eq_true (by omega)
      go_wp2
      go_ret
      exact ⟨by rw [HR.out]; rfl, HX.out⟩
  have dk : decide (k < 1) = false := decide_eq_false (by omega)
  have dk7 : decide (k > 7) = false := decide_eq_false (by omega)
  replace HT : Hid (T = orE NP (orE FP ES)) := Lib.hid (by rw [HT.out, if_neg hk])
  go_upto_region 4 with fail
  clear k0 dk dk7
  generalize w.alloc _ = W1 at *
  generalize hKX : w.heap.size = KX at *
  refine wl_region ?_
  try dsimp only [List.append]
  refine wl_do (some 21) (.pointer (some ⟨g, 0, none⟩)) rfl (by kernel_rfl) (by kernel_rfl) ?_
  refine wl_do (some 22) (.agg #[.int .i64 k, .int .i64 xv, .int .i64 xf, .int .i64 ik, .int .i64 iN, .slice Ai x.index.args.length ci, .int .i64 ek, .int .i64 eN, .slice Ae x.expr.args.length ce, .slice Aa x.args.length ca, .slice At x.thn.length ct, .slice Al x.els.length cl]) rfl (by kernel_rfl) (run_loadRow 120 (.tmp 3) rfl elPC KX 0 (by kernel_rfl) [.int .i64 k, .int .i64 xv, .int .i64 xf, .int .i64 ik, .int .i64 iN, .slice Ai x.index.args.length ci, .int .i64 ek, .int .i64 eN, .slice Ae x.expr.args.length ce, .slice Aa x.args.length ca, .slice At x.thn.length ct, .slice Al x.els.length cl] (blkRange HK.out 0 rfl) rfl (by kernel_rfl)) ?_
  refine wl_call (some 23) rfl (by kernel_rfl) 153 #[.pointer (some ⟨g, 0, none⟩), .agg #[.int .i64 k, .int .i64 xv, .int .i64 xf, .int .i64 ik, .int .i64 iN, .slice Ai x.index.args.length ci, .int .i64 ek, .int .i64 eN, .slice Ae x.expr.args.length ce, .slice Aa x.args.length ca, .slice At x.thn.length ct, .slice Al x.els.length cl]] (by kernel_rfl) (HNA.out _ HX.out) ?_
  rintro r W3 ⟨rfl, hb⟩
  replace HX := Lib.hid (HX.out.tr hb)
  replace HK := Lib.hid (HK.out.keep hb)
  clear hb HNA
  refine ⟨_, rfl, ?_⟩
  refine wl_do (some 6) (.int .i64 NP) rfl (by kernel_rfl) (by kernel_rfl) ?_
  refine wl_nil ?_
  try simp only [Act.put, List.setIfInBounds_toArray, List.set_cons_zero, List.set_cons_succ]
  by_cases hn0 : NP ≠ 0
  · have HR : Hid (T = NP) := Lib.hid (by rw [HT.out, orE_n hn0])
    have dn : (NP != 0) = true := by simpa using hn0
    go_wp2
    go_ret
    exact ⟨by rw [HR.out]; rfl, HX.out⟩
  have hn1 : NP = 0 := by omega
  subst hn1
  replace HT : Hid (T = orE FP ES) := Lib.hid (by rw [HT.out, orE_z])
  clear hn0
  have HFN : Hid (k = 3 → 0 ≤ xf ∧ xf < calls) := Lib.hid (HNP.out rfl)
  clear HNP
  generalize W3 = W2 at *
  obtain ⟨b7, hb7⟩ : ∃ b, decide (k = 2) = b := ⟨_, rfl⟩
  obtain ⟨b8, hb8⟩ : ∃ b, decide (k ≠ 3 ∧ k ≠ 4) = b := ⟨_, rfl⟩
  have HH : Hid (∀ W, Calls Try.prog 154 #[.int .i64 k] W fun r w2 => r = .returned (.tuple #[.bool b7, .bool b8]) ∧ W = w2) := Lib.hid fun W => by have := has_any k W; rw [hb7, hb8] at this; exact this
  have H7 := Lib.hid hb7
  have H8 := Lib.hid hb8
  clear hb7 hb8
  go_wp2_with fail
  refine (HH.out _).mono ?_
  rintro r w3 ⟨rfl, rfl⟩
  clear HH
  go_upto_block 0 with fail
  go_cut [] from 32 to 99 (fun wx => Hid (∃ W, W = wx ∧ Bel W2 W ∧ FP = 0 ∧ x.args.length ≤ 3))
  case first =>
    have hk7 : k = 1 ∨ k = 2 ∨ k = 3 ∨ k = 4 ∨ k = 5 ∨ k = 6 ∨ k = 7 := by omega
    clear hk
    have HXX := Lib.hid (Bel.rfl_ W2)
    have HXW := HX
    clear HX
    rcases hk7 with rfl | rfl | rfl | rfl | rfl | rfl | rfl
    · obtain rfl : b7 = false := by rw [← H7.out]; rfl
      obtain rfl : b8 = true := by rw [← H8.out]; rfl
      go_upto_region 8 with fail
      refine wl_region ?_
      try dsimp only [List.append]
      refine wl_many 4 _ [((some 33), .bool false), ((some 34), .bool true), ((some 35), .bool true), ((some 36), .pointer (some ⟨KX, 3, none⟩))] rfl (by kernel_rfl) ?_
      refine wl_do (some 37) (.agg #[.int .i64 ik, .int .i64 iN, .slice Ai x.index.args.length ci]) rfl (by kernel_rfl) (run_loadRow 47 (.tmp 36) rfl elPE KX 3 (by kernel_rfl) [.int .i64 ik, .int .i64 iN, .slice Ai x.index.args.length ci] (blkRange HK.out 3 rfl) rfl (by kernel_rfl)) ?_
      refine wl_call (some 38) rfl (by kernel_rfl) 142 #[.agg #[.int .i64 ik, .int .i64 iN, .slice Ai x.index.args.length ci]] (by kernel_rfl) (HNI.out _ (HB0.out.tr (HXW.out.tr HXX.out))) ?_
      rintro r W3 ⟨rfl, hb⟩
      replace HXX := Lib.hid (HXX.out.tr hb)
      replace HK := Lib.hid (HK.out.keep hb)
      clear hb
      refine ⟨_, rfl, ?_⟩
      cases NI with
      | false =>
        have HR : Hid (T = 1) := Lib.hid (by rw [HT.out, HFO.out, if_pos (by simp), orE_n (by decide)])
        refine wl_many 43 _ [((some 39), .bool true), ((some 40), .bool true), ((some 41), .bool true), ((some 42), undef), ((some 43), undef), ((some 44), undef), ((some 45), undef), ((some 46), undef), ((some 47), undef), ((some 48), undef), ((some 49), undef), ((some 50), .bool true), ((some 51), .bool true), ((some 52), undef), ((some 53), undef), ((some 54), undef), ((some 55), undef), ((some 56), undef), ((some 57), undef), ((some 58), undef), ((some 59), undef), ((some 60), .bool true), ((some 61), .bool true), ((some 62), undef), ((some 63), undef), ((some 64), undef), ((some 65), undef), ((some 66), undef), ((some 67), undef), ((some 68), undef), ((some 69), undef), ((some 70), .bool true), ((some 71), .bool true), ((some 72), undef), ((some 73), undef), ((some 74), undef), ((some 75), undef), ((some 76), undef), ((some 77), undef), ((some 78), undef), ((some 79), undef), ((some 80), .bool true), ((some 32), .bool true)] rfl (by kernel_rfl) ?_
        refine wl_nil ?_
        try simp only [putAll, Act.put, List.setIfInBounds_toArray, List.set_cons_zero, List.set_cons_succ]
        go_wp2
        go_ret
        exact ⟨by rw [HR.out]; rfl, HXW.out.tr HXX.out⟩
      | true =>
        refine wl_many 14 _ [((some 39), .bool false), ((some 40), .bool false), ((some 41), .bool false), ((some 42), .bool true), ((some 43), .bool false), ((some 44), .bool false), ((some 45), undef), ((some 46), undef), ((some 47), undef), ((some 48), undef), ((some 49), .bool false), ((some 50), .bool false), ((some 51), .bool false), ((some 52), .int .i64 1)] rfl (by kernel_rfl) ?_
        refine wl_many 3 _ [((some 53), .bool true), ((some 54), .bool true), ((some 55), .pointer (some ⟨KX, 9, none⟩))] rfl (by kernel_rfl) ?_
        refine wl_do (some 56) (.slice Aa x.args.length ca) rfl (by kernel_rfl) (rl_es rfl (by kernel_rfl) (HK.out.cell (i := 9) (v := .slice Aa x.args.length ca) rfl)) ?_
        refine wl_do (some 57) (.int .i64 x.args.length) rfl (by kernel_rfl) (by kernel_rfl) ?_
        by_cases hzA : 0 < x.args.length
        · have dzA : decide ((0 : Int) < x.args.length) = true := decide_eq_true (by omega)
          have HR : Hid (T = 1) := Lib.hid (by rw [HT.out, HFO.out, if_pos (by first | omega | (simp; omega)), orE_n (by decide)])
          refine wl_do (some 58) (.bool true) rfl (by kernel_rfl) (rb_gtrI rfl (by kernel_rfl) (by kernel_rfl) dzA) ?_
          refine wl_many 23 _ [((some 59), .bool true), ((some 60), .bool true), ((some 61), .bool true), ((some 62), undef), ((some 63), undef), ((some 64), undef), ((some 65), undef), ((some 66), undef), ((some 67), undef), ((some 68), undef), ((some 69), undef), ((some 70), .bool true), ((some 71), .bool true), ((some 72), undef), ((some 73), undef), ((some 74), undef), ((some 75), undef), ((some 76), undef), ((some 77), undef), ((some 78), undef), ((some 79), undef), ((some 80), .bool true), ((some 32), .bool true)] rfl (by kernel_rfl) ?_
          refine wl_nil ?_
          try simp only [putAll, Act.put, List.setIfInBounds_toArray, List.set_cons_zero, List.set_cons_succ]
          go_wp2
          go_ret
          exact ⟨by rw [HR.out]; rfl, HXW.out.tr HXX.out⟩
        have dzA : decide ((0 : Int) < x.args.length) = false := decide_eq_false (by omega)
        refine wl_do (some 58) (.bool false) rfl (by kernel_rfl) (rb_gtrI rfl (by kernel_rfl) (by kernel_rfl) dzA) ?_
        refine wl_many 4 _ [((some 59), .bool false), ((some 60), .bool false), ((some 61), .bool false), ((some 62), .int .i64 1)] rfl (by kernel_rfl) ?_
        refine wl_many 3 _ [((some 63), .bool true), ((some 64), .bool true), ((some 65), .pointer (some ⟨KX, 10, none⟩))] rfl (by kernel_rfl) ?_
        refine wl_do (some 66) (.slice At x.thn.length ct) rfl (by kernel_rfl) (rl_cs rfl (by kernel_rfl) (HK.out.cell (i := 10) (v := .slice At x.thn.length ct) rfl)) ?_
        refine wl_do (some 67) (.int .i64 x.thn.length) rfl (by kernel_rfl) (by kernel_rfl) ?_
        by_cases hzN : 0 < x.thn.length
        · have dzN : decide ((0 : Int) < x.thn.length) = true := decide_eq_true (by omega)
          have HR : Hid (T = 1) := Lib.hid (by rw [HT.out, HFO.out, if_pos (by first | omega | (simp; omega)), orE_n (by decide)])
          refine wl_do (some 68) (.bool true) rfl (by kernel_rfl) (rb_gtrI rfl (by kernel_rfl) (by kernel_rfl) dzN) ?_
          refine wl_many 13 _ [((some 69), .bool true), ((some 70), .bool true), ((some 71), .bool true), ((some 72), undef), ((some 73), undef), ((some 74), undef), ((some 75), undef), ((some 76), undef), ((some 77), undef), ((some 78), undef), ((some 79), undef), ((some 80), .bool true), ((some 32), .bool true)] rfl (by kernel_rfl) ?_
          refine wl_nil ?_
          try simp only [putAll, Act.put, List.setIfInBounds_toArray, List.set_cons_zero, List.set_cons_succ]
          go_wp2
          go_ret
          exact ⟨by rw [HR.out]; rfl, HXW.out.tr HXX.out⟩
        have dzN : decide ((0 : Int) < x.thn.length) = false := decide_eq_false (by omega)
        refine wl_do (some 68) (.bool false) rfl (by kernel_rfl) (rb_gtrI rfl (by kernel_rfl) (by kernel_rfl) dzN) ?_
        refine wl_many 4 _ [((some 69), .bool false), ((some 70), .bool false), ((some 71), .bool false), ((some 72), .int .i64 1)] rfl (by kernel_rfl) ?_
        refine wl_many 3 _ [((some 73), .bool true), ((some 74), .bool true), ((some 75), .pointer (some ⟨KX, 11, none⟩))] rfl (by kernel_rfl) ?_
        refine wl_do (some 76) (.slice Al x.els.length cl) rfl (by kernel_rfl) (rl_cs rfl (by kernel_rfl) (HK.out.cell (i := 11) (v := .slice Al x.els.length cl) rfl)) ?_
        refine wl_do (some 77) (.int .i64 x.els.length) rfl (by kernel_rfl) (by kernel_rfl) ?_
        by_cases hzS : 0 < x.els.length
        · have dzS : decide ((0 : Int) < x.els.length) = true := decide_eq_true (by omega)
          have HR : Hid (T = 1) := Lib.hid (by rw [HT.out, HFO.out, if_pos (by first | omega | (simp; omega)), orE_n (by decide)])
          refine wl_do (some 78) (.bool true) rfl (by kernel_rfl) (rb_gtrI rfl (by kernel_rfl) (by kernel_rfl) dzS) ?_
          refine wl_many 3 _ [((some 79), .bool true), ((some 80), .bool true), ((some 32), .bool true)] rfl (by kernel_rfl) ?_
          refine wl_nil ?_
          try simp only [putAll, Act.put, List.setIfInBounds_toArray, List.set_cons_zero, List.set_cons_succ]
          go_wp2
          go_ret
          exact ⟨by rw [HR.out]; rfl, HXW.out.tr HXX.out⟩
        have dzS : decide ((0 : Int) < x.els.length) = false := decide_eq_false (by omega)
        refine wl_do (some 78) (.bool false) rfl (by kernel_rfl) (rb_gtrI rfl (by kernel_rfl) (by kernel_rfl) dzS) ?_
        refine wl_many 3 _ [((some 79), .bool false), ((some 80), .bool false), ((some 32), .bool false)] rfl (by kernel_rfl) ?_
        refine wl_nil ?_
        try simp only [putAll, Act.put, List.setIfInBounds_toArray, List.set_cons_zero, List.set_cons_succ]
        have HF0 : Hid (FP = 0) := Lib.hid (by rw [HFO.out, if_neg (by rintro (h | h | h | h | h) <;> first | omega | simp at h), if_neg (by first | omega | decide)])
        go_wp2
        go_quiet (fail)
        go_wp2
        go_meet
        exact Lib.hid ⟨_, rfl, HXX.out.drN _, HF0.out, by omega⟩
    · obtain rfl : b7 = true := by rw [← H7.out]; rfl
      obtain rfl : b8 = true := by rw [← H8.out]; rfl
      go_upto_region 8 with fail
      refine wl_region ?_
      try dsimp only [List.append]
      refine wl_many 20 _ [((some 33), .bool true), ((some 34), .bool false), ((some 35), .bool false), ((some 36), undef), ((some 37), undef), ((some 38), undef), ((some 39), undef), ((some 40), .bool false), ((some 41), .bool false), ((some 42), .bool true), ((some 43), .bool false), ((some 44), .bool false), ((some 45), undef), ((some 46), undef), ((some 47), undef), ((some 48), undef), ((some 49), .bool false), ((some 50), .bool false), ((some 51), .bool false), ((some 52), .int .i64 2)] rfl (by kernel_rfl) ?_
      refine wl_many 3 _ [((some 53), .bool true), ((some 54), .bool true), ((some 55), .pointer (some ⟨KX, 9, none⟩))] rfl (by kernel_rfl) ?_
      refine wl_do (some 56) (.slice Aa x.args.length ca) rfl (by kernel_rfl) (rl_es rfl (by kernel_rfl) (HK.out.cell (i := 9) (v := .slice Aa x.args.length ca) rfl)) ?_
      refine wl_do (some 57) (.int .i64 x.args.length) rfl (by kernel_rfl) (by kernel_rfl) ?_
      by_cases hzA : 0 < x.args.length
      · have dzA : decide ((0 : Int) < x.args.length) = true := decide_eq_true (by omega)
        have HR : Hid (T = 1) := Lib.hid (by rw [HT.out, HFO.out, if_pos (by first | omega | (simp; omega)), orE_n (by decide)])
        refine wl_do (some 58) (.bool true) rfl (by kernel_rfl) (rb_gtrI rfl (by kernel_rfl) (by kernel_rfl) dzA) ?_
        refine wl_many 23 _ [((some 59), .bool true), ((some 60), .bool true), ((some 61), .bool true), ((some 62), undef), ((some 63), undef), ((some 64), undef), ((some 65), undef), ((some 66), undef), ((some 67), undef), ((some 68), undef), ((some 69), undef), ((some 70), .bool true), ((some 71), .bool true), ((some 72), undef), ((some 73), undef), ((some 74), undef), ((some 75), undef), ((some 76), undef), ((some 77), undef), ((some 78), undef), ((some 79), undef), ((some 80), .bool true), ((some 32), .bool true)] rfl (by kernel_rfl) ?_
        refine wl_nil ?_
        try simp only [putAll, Act.put, List.setIfInBounds_toArray, List.set_cons_zero, List.set_cons_succ]
        go_wp2
        go_ret
        exact ⟨by rw [HR.out]; rfl, HXW.out.tr HXX.out⟩
      have dzA : decide ((0 : Int) < x.args.length) = false := decide_eq_false (by omega)
      refine wl_do (some 58) (.bool false) rfl (by kernel_rfl) (rb_gtrI rfl (by kernel_rfl) (by kernel_rfl) dzA) ?_
      refine wl_many 4 _ [((some 59), .bool false), ((some 60), .bool false), ((some 61), .bool false), ((some 62), .int .i64 2)] rfl (by kernel_rfl) ?_
      refine wl_many 3 _ [((some 63), .bool true), ((some 64), .bool true), ((some 65), .pointer (some ⟨KX, 10, none⟩))] rfl (by kernel_rfl) ?_
      refine wl_do (some 66) (.slice At x.thn.length ct) rfl (by kernel_rfl) (rl_cs rfl (by kernel_rfl) (HK.out.cell (i := 10) (v := .slice At x.thn.length ct) rfl)) ?_
      refine wl_do (some 67) (.int .i64 x.thn.length) rfl (by kernel_rfl) (by kernel_rfl) ?_
      by_cases hzN : 0 < x.thn.length
      · have dzN : decide ((0 : Int) < x.thn.length) = true := decide_eq_true (by omega)
        have HR : Hid (T = 1) := Lib.hid (by rw [HT.out, HFO.out, if_pos (by first | omega | (simp; omega)), orE_n (by decide)])
        refine wl_do (some 68) (.bool true) rfl (by kernel_rfl) (rb_gtrI rfl (by kernel_rfl) (by kernel_rfl) dzN) ?_
        refine wl_many 13 _ [((some 69), .bool true), ((some 70), .bool true), ((some 71), .bool true), ((some 72), undef), ((some 73), undef), ((some 74), undef), ((some 75), undef), ((some 76), undef), ((some 77), undef), ((some 78), undef), ((some 79), undef), ((some 80), .bool true), ((some 32), .bool true)] rfl (by kernel_rfl) ?_
        refine wl_nil ?_
        try simp only [putAll, Act.put, List.setIfInBounds_toArray, List.set_cons_zero, List.set_cons_succ]
        go_wp2
        go_ret
        exact ⟨by rw [HR.out]; rfl, HXW.out.tr HXX.out⟩
      have dzN : decide ((0 : Int) < x.thn.length) = false := decide_eq_false (by omega)
      refine wl_do (some 68) (.bool false) rfl (by kernel_rfl) (rb_gtrI rfl (by kernel_rfl) (by kernel_rfl) dzN) ?_
      refine wl_many 4 _ [((some 69), .bool false), ((some 70), .bool false), ((some 71), .bool false), ((some 72), .int .i64 2)] rfl (by kernel_rfl) ?_
      refine wl_many 3 _ [((some 73), .bool true), ((some 74), .bool true), ((some 75), .pointer (some ⟨KX, 11, none⟩))] rfl (by kernel_rfl) ?_
      refine wl_do (some 76) (.slice Al x.els.length cl) rfl (by kernel_rfl) (rl_cs rfl (by kernel_rfl) (HK.out.cell (i := 11) (v := .slice Al x.els.length cl) rfl)) ?_
      refine wl_do (some 77) (.int .i64 x.els.length) rfl (by kernel_rfl) (by kernel_rfl) ?_
      by_cases hzS : 0 < x.els.length
      · have dzS : decide ((0 : Int) < x.els.length) = true := decide_eq_true (by omega)
        have HR : Hid (T = 1) := Lib.hid (by rw [HT.out, HFO.out, if_pos (by first | omega | (simp; omega)), orE_n (by decide)])
        refine wl_do (some 78) (.bool true) rfl (by kernel_rfl) (rb_gtrI rfl (by kernel_rfl) (by kernel_rfl) dzS) ?_
        refine wl_many 3 _ [((some 79), .bool true), ((some 80), .bool true), ((some 32), .bool true)] rfl (by kernel_rfl) ?_
        refine wl_nil ?_
        try simp only [putAll, Act.put, List.setIfInBounds_toArray, List.set_cons_zero, List.set_cons_succ]
        go_wp2
        go_ret
        exact ⟨by rw [HR.out]; rfl, HXW.out.tr HXX.out⟩
      have dzS : decide ((0 : Int) < x.els.length) = false := decide_eq_false (by omega)
      refine wl_do (some 78) (.bool false) rfl (by kernel_rfl) (rb_gtrI rfl (by kernel_rfl) (by kernel_rfl) dzS) ?_
      refine wl_many 3 _ [((some 79), .bool false), ((some 80), .bool false), ((some 32), .bool false)] rfl (by kernel_rfl) ?_
      refine wl_nil ?_
      try simp only [putAll, Act.put, List.setIfInBounds_toArray, List.set_cons_zero, List.set_cons_succ]
      have HF0 : Hid (FP = 0) := Lib.hid (by rw [HFO.out, if_neg (by rintro (h | h | h | h | h) <;> first | omega | simp at h), if_neg (by first | omega | decide)])
      go_wp2
      go_quiet (fail)
      go_wp2
      go_meet
      exact Lib.hid ⟨_, rfl, HXX.out.drN _, HF0.out, by omega⟩
    · obtain rfl : b7 = false := by rw [← H7.out]; rfl
      obtain rfl : b8 = false := by rw [← H8.out]; rfl
      go_upto_region 8 with fail
      refine wl_region ?_
      try dsimp only [List.append]
      refine wl_many 4 _ [((some 33), .bool false), ((some 34), .bool true), ((some 35), .bool true), ((some 36), .pointer (some ⟨KX, 3, none⟩))] rfl (by kernel_rfl) ?_
      refine wl_do (some 37) (.agg #[.int .i64 ik, .int .i64 iN, .slice Ai x.index.args.length ci]) rfl (by kernel_rfl) (run_loadRow 47 (.tmp 36) rfl elPE KX 3 (by kernel_rfl) [.int .i64 ik, .int .i64 iN, .slice Ai x.index.args.length ci] (blkRange HK.out 3 rfl) rfl (by kernel_rfl)) ?_
      refine wl_call (some 38) rfl (by kernel_rfl) 142 #[.agg #[.int .i64 ik, .int .i64 iN, .slice Ai x.index.args.length ci]] (by kernel_rfl) (HNI.out _ (HB0.out.tr (HXW.out.tr HXX.out))) ?_
      rintro r W3 ⟨rfl, hb⟩
      replace HXX := Lib.hid (HXX.out.tr hb)
      replace HK := Lib.hid (HK.out.keep hb)
      clear hb
      refine ⟨_, rfl, ?_⟩
      cases NI with
      | false =>
        have HR : Hid (T = 1) := Lib.hid (by rw [HT.out, HFO.out, if_pos (by simp), orE_n (by decide)])
        refine wl_many 43 _ [((some 39), .bool true), ((some 40), .bool true), ((some 41), .bool true), ((some 42), undef), ((some 43), undef), ((some 44), undef), ((some 45), undef), ((some 46), undef), ((some 47), undef), ((some 48), undef), ((some 49), undef), ((some 50), .bool true), ((some 51), .bool true), ((some 52), undef), ((some 53), undef), ((some 54), undef), ((some 55), undef), ((some 56), undef), ((some 57), undef), ((some 58), undef), ((some 59), undef), ((some 60), .bool true), ((some 61), .bool true), ((some 62), undef), ((some 63), undef), ((some 64), undef), ((some 65), undef), ((some 66), undef), ((some 67), undef), ((some 68), undef), ((some 69), undef), ((some 70), .bool true), ((some 71), .bool true), ((some 72), undef), ((some 73), undef), ((some 74), undef), ((some 75), undef), ((some 76), undef), ((some 77), undef), ((some 78), undef), ((some 79), undef), ((some 80), .bool true), ((some 32), .bool true)] rfl (by kernel_rfl) ?_
        refine wl_nil ?_
        try simp only [putAll, Act.put, List.setIfInBounds_toArray, List.set_cons_zero, List.set_cons_succ]
        go_wp2
        go_ret
        exact ⟨by rw [HR.out]; rfl, HXW.out.tr HXX.out⟩
      | true =>
        refine wl_many 7 _ [((some 39), .bool false), ((some 40), .bool false), ((some 41), .bool false), ((some 42), .bool false), ((some 43), .bool true), ((some 44), .bool true), ((some 45), .pointer (some ⟨KX, 6, none⟩))] rfl (by kernel_rfl) ?_
        refine wl_do (some 46) (.agg #[.int .i64 ek, .int .i64 eN, .slice Ae x.expr.args.length ce]) rfl (by kernel_rfl) (run_loadRow 47 (.tmp 45) rfl elPE KX 6 (by kernel_rfl) [.int .i64 ek, .int .i64 eN, .slice Ae x.expr.args.length ce] (blkRange HK.out 6 rfl) rfl (by kernel_rfl)) ?_
        refine wl_call (some 47) rfl (by kernel_rfl) 142 #[.agg #[.int .i64 ek, .int .i64 eN, .slice Ae x.expr.args.length ce]] (by kernel_rfl) (HNE.out _ (HB0.out.tr (HXW.out.tr HXX.out))) ?_
        rintro r W3 ⟨rfl, hb⟩
        replace HXX := Lib.hid (HXX.out.tr hb)
        replace HK := Lib.hid (HK.out.keep hb)
        clear hb
        refine ⟨_, rfl, ?_⟩
        cases NE with
        | false =>
          have HR : Hid (T = 1) := Lib.hid (by rw [HT.out, HFO.out, if_pos (by simp), orE_n (by decide)])
          refine wl_many 34 _ [((some 48), .bool true), ((some 49), .bool true), ((some 50), .bool true), ((some 51), .bool true), ((some 52), undef), ((some 53), undef), ((some 54), undef), ((some 55), undef), ((some 56), undef), ((some 57), undef), ((some 58), undef), ((some 59), undef), ((some 60), .bool true), ((some 61), .bool true), ((some 62), undef), ((some 63), undef), ((some 64), undef), ((some 65), undef), ((some 66), undef), ((some 67), undef), ((some 68), undef), ((some 69), undef), ((some 70), .bool true), ((some 71), .bool true), ((some 72), undef), ((some 73), undef), ((some 74), undef), ((some 75), undef), ((some 76), undef), ((some 77), undef), ((some 78), undef), ((some 79), undef), ((some 80), .bool true), ((some 32), .bool true)] rfl (by kernel_rfl) ?_
          refine wl_nil ?_
          try simp only [putAll, Act.put, List.setIfInBounds_toArray, List.set_cons_zero, List.set_cons_succ]
          go_wp2
          go_ret
          exact ⟨by rw [HR.out]; rfl, HXW.out.tr HXX.out⟩
        | true =>
          refine wl_many 5 _ [((some 48), .bool false), ((some 49), .bool false), ((some 50), .bool false), ((some 51), .bool false), ((some 52), .int .i64 3)] rfl (by kernel_rfl) ?_
          refine wl_many 10 _ [((some 53), .bool false), ((some 54), .bool false), ((some 55), undef), ((some 56), undef), ((some 57), undef), ((some 58), undef), ((some 59), .bool false), ((some 60), .bool false), ((some 61), .bool false), ((some 62), .int .i64 3)] rfl (by kernel_rfl) ?_
          refine wl_many 3 _ [((some 63), .bool true), ((some 64), .bool true), ((some 65), .pointer (some ⟨KX, 10, none⟩))] rfl (by kernel_rfl) ?_
          refine wl_do (some 66) (.slice At x.thn.length ct) rfl (by kernel_rfl) (rl_cs rfl (by kernel_rfl) (HK.out.cell (i := 10) (v := .slice At x.thn.length ct) rfl)) ?_
          refine wl_do (some 67) (.int .i64 x.thn.length) rfl (by kernel_rfl) (by kernel_rfl) ?_
          by_cases hzN : 0 < x.thn.length
          · have dzN : decide ((0 : Int) < x.thn.length) = true := decide_eq_true (by omega)
            have HR : Hid (T = 1) := Lib.hid (by rw [HT.out, HFO.out, if_pos (by first | omega | (simp; omega)), orE_n (by decide)])
            refine wl_do (some 68) (.bool true) rfl (by kernel_rfl) (rb_gtrI rfl (by kernel_rfl) (by kernel_rfl) dzN) ?_
            refine wl_many 13 _ [((some 69), .bool true), ((some 70), .bool true), ((some 71), .bool true), ((some 72), undef), ((some 73), undef), ((some 74), undef), ((some 75), undef), ((some 76), undef), ((some 77), undef), ((some 78), undef), ((some 79), undef), ((some 80), .bool true), ((some 32), .bool true)] rfl (by kernel_rfl) ?_
            refine wl_nil ?_
            try simp only [putAll, Act.put, List.setIfInBounds_toArray, List.set_cons_zero, List.set_cons_succ]
            go_wp2
            go_ret
            exact ⟨by rw [HR.out]; rfl, HXW.out.tr HXX.out⟩
          have dzN : decide ((0 : Int) < x.thn.length) = false := decide_eq_false (by omega)
          refine wl_do (some 68) (.bool false) rfl (by kernel_rfl) (rb_gtrI rfl (by kernel_rfl) (by kernel_rfl) dzN) ?_
          refine wl_many 4 _ [((some 69), .bool false), ((some 70), .bool false), ((some 71), .bool false), ((some 72), .int .i64 3)] rfl (by kernel_rfl) ?_
          refine wl_many 3 _ [((some 73), .bool true), ((some 74), .bool true), ((some 75), .pointer (some ⟨KX, 11, none⟩))] rfl (by kernel_rfl) ?_
          refine wl_do (some 76) (.slice Al x.els.length cl) rfl (by kernel_rfl) (rl_cs rfl (by kernel_rfl) (HK.out.cell (i := 11) (v := .slice Al x.els.length cl) rfl)) ?_
          refine wl_do (some 77) (.int .i64 x.els.length) rfl (by kernel_rfl) (by kernel_rfl) ?_
          by_cases hzS : 0 < x.els.length
          · have dzS : decide ((0 : Int) < x.els.length) = true := decide_eq_true (by omega)
            have HR : Hid (T = 1) := Lib.hid (by rw [HT.out, HFO.out, if_pos (by first | omega | (simp; omega)), orE_n (by decide)])
            refine wl_do (some 78) (.bool true) rfl (by kernel_rfl) (rb_gtrI rfl (by kernel_rfl) (by kernel_rfl) dzS) ?_
            refine wl_many 3 _ [((some 79), .bool true), ((some 80), .bool true), ((some 32), .bool true)] rfl (by kernel_rfl) ?_
            refine wl_nil ?_
            try simp only [putAll, Act.put, List.setIfInBounds_toArray, List.set_cons_zero, List.set_cons_succ]
            go_wp2
            go_ret
            exact ⟨by rw [HR.out]; rfl, HXW.out.tr HXX.out⟩
          have dzS : decide ((0 : Int) < x.els.length) = false := decide_eq_false (by omega)
          refine wl_do (some 78) (.bool false) rfl (by kernel_rfl) (rb_gtrI rfl (by kernel_rfl) (by kernel_rfl) dzS) ?_
          refine wl_many 3 _ [((some 79), .bool false), ((some 80), .bool false), ((some 32), .bool false)] rfl (by kernel_rfl) ?_
          refine wl_nil ?_
          try simp only [putAll, Act.put, List.setIfInBounds_toArray, List.set_cons_zero, List.set_cons_succ]
          replace HFO : Hid (FP = if (x.args.length : Int) ≠ (ps.map PF.params).getD xf.toNat 0 then 1 else 0) := Lib.hid (by rw [HFO.out, if_neg (by rintro (h | h | h | h | h) <;> first | omega | simp at h)]; simp)
          obtain ⟨hf0, hf1⟩ := HFN.out rfl
          obtain ⟨gg, hgg⟩ : ∃ gg, ps[xf.toNat]? = some gg := ⟨_, List.getElem?_eq_getElem (by have := HCL.out; omega)⟩
          have hg3 := HPS.out _ gg hgg (by omega)
          have hgp : (ps.map PF.params).getD xf.toNat 0 = gg.params := by rw [List.getD_eq_getElem?_getD, List.getElem?_map, hgg]; rfl
          rw [hgp] at HFO
          obtain ⟨bp, op, cp1, rfl, hcp1, hcp2⟩ := HVP.out.elem hgg
          obtain ⟨vz1, vc1, vr1, rfl, -⟩ := hcp1
          have p0 : W3.cell? ⟨bp, op + xf.toNat * 6, none⟩ = some (.int .i64 gg.params) := (HB0.out.tr (HXW.out.tr HXX.out)).cell (hcp2 0 _ rfl)
          have q0 := (HBK.out.keep (HXW.out.tr HXX.out)).cell (i := 0) (v := .slice (some ⟨bp, op, none⟩) ps.length cp) rfl
          have q9 := HK.out.cell (i := 9) (v := .slice Aa x.args.length ca) rfl
          have q2 := HK.out.cell (i := 2) (v := .int .i64 xf) rfl
          have hf2 : xf < ps.length := by have := HCL.out; omega
          clear hcp2 hgg hgp
          by_cases hA : (x.args.length : Int) ≠ gg.params
          · have HR : Hid (T = 1) := Lib.hid (by rw [HT.out, HFO.out, if_pos hA, orE_n (by decide)])
            have dA : ((x.args.length : Int) != gg.params) = true := by simpa using hA
            go_wp2
            go_quiet (fail)
            go_wp2
            go_ret
            exact ⟨by rw [HR.out]; rfl, (HXW.out.tr HXX.out).drN _⟩
          · have HF0 : Hid (FP = 0) := Lib.hid (by rw [HFO.out, if_neg hA])
            have dA : ((x.args.length : Int) != gg.params) = false := by simpa using hA
            go_wp2
            go_quiet (fail)
            go_wp2
            go_meet
            exact Lib.hid ⟨_, rfl, HXX.out.drN _, HF0.out, by omega⟩
    · obtain rfl : b7 = false := by rw [← H7.out]; rfl
      obtain rfl : b8 = false := by rw [← H8.out]; rfl
      go_upto_region 8 with fail
      refine wl_region ?_
      try dsimp only [List.append]
      refine wl_many 4 _ [((some 33), .bool false), ((some 34), .bool true), ((some 35), .bool true), ((some 36), .pointer (some ⟨KX, 3, none⟩))] rfl (by kernel_rfl) ?_
      refine wl_do (some 37) (.agg #[.int .i64 ik, .int .i64 iN, .slice Ai x.index.args.length ci]) rfl (by kernel_rfl) (run_loadRow 47 (.tmp 36) rfl elPE KX 3 (by kernel_rfl) [.int .i64 ik, .int .i64 iN, .slice Ai x.index.args.length ci] (blkRange HK.out 3 rfl) rfl (by kernel_rfl)) ?_
      refine wl_call (some 38) rfl (by kernel_rfl) 142 #[.agg #[.int .i64 ik, .int .i64 iN, .slice Ai x.index.args.length ci]] (by kernel_rfl) (HNI.out _ (HB0.out.tr (HXW.out.tr HXX.out))) ?_
      rintro r W3 ⟨rfl, hb⟩
      replace HXX := Lib.hid (HXX.out.tr hb)
      replace HK := Lib.hid (HK.out.keep hb)
      clear hb
      refine ⟨_, rfl, ?_⟩
      cases NI with
      | false =>
        have HR : Hid (T = 1) := Lib.hid (by rw [HT.out, HFO.out, if_pos (by simp), orE_n (by decide)])
        refine wl_many 43 _ [((some 39), .bool true), ((some 40), .bool true), ((some 41), .bool true), ((some 42), undef), ((some 43), undef), ((some 44), undef), ((some 45), undef), ((some 46), undef), ((some 47), undef), ((some 48), undef), ((some 49), undef), ((some 50), .bool true), ((some 51), .bool true), ((some 52), undef), ((some 53), undef), ((some 54), undef), ((some 55), undef), ((some 56), undef), ((some 57), undef), ((some 58), undef), ((some 59), undef), ((some 60), .bool true), ((some 61), .bool true), ((some 62), undef), ((some 63), undef), ((some 64), undef), ((some 65), undef), ((some 66), undef), ((some 67), undef), ((some 68), undef), ((some 69), undef), ((some 70), .bool true), ((some 71), .bool true), ((some 72), undef), ((some 73), undef), ((some 74), undef), ((some 75), undef), ((some 76), undef), ((some 77), undef), ((some 78), undef), ((some 79), undef), ((some 80), .bool true), ((some 32), .bool true)] rfl (by kernel_rfl) ?_
        refine wl_nil ?_
        try simp only [putAll, Act.put, List.setIfInBounds_toArray, List.set_cons_zero, List.set_cons_succ]
        go_wp2
        go_ret
        exact ⟨by rw [HR.out]; rfl, HXW.out.tr HXX.out⟩
      | true =>
        refine wl_many 7 _ [((some 39), .bool false), ((some 40), .bool false), ((some 41), .bool false), ((some 42), .bool false), ((some 43), .bool true), ((some 44), .bool true), ((some 45), .pointer (some ⟨KX, 6, none⟩))] rfl (by kernel_rfl) ?_
        refine wl_do (some 46) (.agg #[.int .i64 ek, .int .i64 eN, .slice Ae x.expr.args.length ce]) rfl (by kernel_rfl) (run_loadRow 47 (.tmp 45) rfl elPE KX 6 (by kernel_rfl) [.int .i64 ek, .int .i64 eN, .slice Ae x.expr.args.length ce] (blkRange HK.out 6 rfl) rfl (by kernel_rfl)) ?_
        refine wl_call (some 47) rfl (by kernel_rfl) 142 #[.agg #[.int .i64 ek, .int .i64 eN, .slice Ae x.expr.args.length ce]] (by kernel_rfl) (HNE.out _ (HB0.out.tr (HXW.out.tr HXX.out))) ?_
        rintro r W3 ⟨rfl, hb⟩
        replace HXX := Lib.hid (HXX.out.tr hb)
        replace HK := Lib.hid (HK.out.keep hb)
        clear hb
        refine ⟨_, rfl, ?_⟩
        cases NE with
        | false =>
          have HR : Hid (T = 1) := Lib.hid (by rw [HT.out, HFO.out, if_pos (by simp), orE_n (by decide)])
          refine wl_many 34 _ [((some 48), .bool true), ((some 49), .bool true), ((some 50), .bool true), ((some 51), .bool true), ((some 52), undef), ((some 53), undef), ((some 54), undef), ((some 55), undef), ((some 56), undef), ((some 57), undef), ((some 58), undef), ((some 59), undef), ((some 60), .bool true), ((some 61), .bool true), ((some 62), undef), ((some 63), undef), ((some 64), undef), ((some 65), undef), ((some 66), undef), ((some 67), undef), ((some 68), undef), ((some 69), undef), ((some 70), .bool true), ((some 71), .bool true), ((some 72), undef), ((some 73), undef), ((some 74), undef), ((some 75), undef), ((some 76), undef), ((some 77), undef), ((some 78), undef), ((some 79), undef), ((some 80), .bool true), ((some 32), .bool true)] rfl (by kernel_rfl) ?_
          refine wl_nil ?_
          try simp only [putAll, Act.put, List.setIfInBounds_toArray, List.set_cons_zero, List.set_cons_succ]
          go_wp2
          go_ret
          exact ⟨by rw [HR.out]; rfl, HXW.out.tr HXX.out⟩
        | true =>
          refine wl_many 5 _ [((some 48), .bool false), ((some 49), .bool false), ((some 50), .bool false), ((some 51), .bool false), ((some 52), .int .i64 4)] rfl (by kernel_rfl) ?_
          refine wl_many 3 _ [((some 53), .bool true), ((some 54), .bool true), ((some 55), .pointer (some ⟨KX, 9, none⟩))] rfl (by kernel_rfl) ?_
          refine wl_do (some 56) (.slice Aa x.args.length ca) rfl (by kernel_rfl) (rl_es rfl (by kernel_rfl) (HK.out.cell (i := 9) (v := .slice Aa x.args.length ca) rfl)) ?_
          refine wl_do (some 57) (.int .i64 x.args.length) rfl (by kernel_rfl) (by kernel_rfl) ?_
          by_cases hzA : 0 < x.args.length
          · have dzA : decide ((0 : Int) < x.args.length) = true := decide_eq_true (by omega)
            have HR : Hid (T = 1) := Lib.hid (by rw [HT.out, HFO.out, if_pos (by first | omega | (simp; omega)), orE_n (by decide)])
            refine wl_do (some 58) (.bool true) rfl (by kernel_rfl) (rb_gtrI rfl (by kernel_rfl) (by kernel_rfl) dzA) ?_
            refine wl_many 23 _ [((some 59), .bool true), ((some 60), .bool true), ((some 61), .bool true), ((some 62), undef), ((some 63), undef), ((some 64), undef), ((some 65), undef), ((some 66), undef), ((some 67), undef), ((some 68), undef), ((some 69), undef), ((some 70), .bool true), ((some 71), .bool true), ((some 72), undef), ((some 73), undef), ((some 74), undef), ((some 75), undef), ((some 76), undef), ((some 77), undef), ((some 78), undef), ((some 79), undef), ((some 80), .bool true), ((some 32), .bool true)] rfl (by kernel_rfl) ?_
            refine wl_nil ?_
            try simp only [putAll, Act.put, List.setIfInBounds_toArray, List.set_cons_zero, List.set_cons_succ]
            go_wp2
            go_ret
            exact ⟨by rw [HR.out]; rfl, HXW.out.tr HXX.out⟩
          have dzA : decide ((0 : Int) < x.args.length) = false := decide_eq_false (by omega)
          refine wl_do (some 58) (.bool false) rfl (by kernel_rfl) (rb_gtrI rfl (by kernel_rfl) (by kernel_rfl) dzA) ?_
          refine wl_many 4 _ [((some 59), .bool false), ((some 60), .bool false), ((some 61), .bool false), ((some 62), .int .i64 4)] rfl (by kernel_rfl) ?_
          refine wl_many 3 _ [((some 63), .bool true), ((some 64), .bool true), ((some 65), .pointer (some ⟨KX, 10, none⟩))] rfl (by kernel_rfl) ?_
          refine wl_do (some 66) (.slice At x.thn.length ct) rfl (by kernel_rfl) (rl_cs rfl (by kernel_rfl) (HK.out.cell (i := 10) (v := .slice At x.thn.length ct) rfl)) ?_
          refine wl_do (some 67) (.int .i64 x.thn.length) rfl (by kernel_rfl) (by kernel_rfl) ?_
          by_cases hzN : 0 < x.thn.length
          · have dzN : decide ((0 : Int) < x.thn.length) = true := decide_eq_true (by omega)
            have HR : Hid (T = 1) := Lib.hid (by rw [HT.out, HFO.out, if_pos (by first | omega | (simp; omega)), orE_n (by decide)])
            refine wl_do (some 68) (.bool true) rfl (by kernel_rfl) (rb_gtrI rfl (by kernel_rfl) (by kernel_rfl) dzN) ?_
            refine wl_many 13 _ [((some 69), .bool true), ((some 70), .bool true), ((some 71), .bool true), ((some 72), undef), ((some 73), undef), ((some 74), undef), ((some 75), undef), ((some 76), undef), ((some 77), undef), ((some 78), undef), ((some 79), undef), ((some 80), .bool true), ((some 32), .bool true)] rfl (by kernel_rfl) ?_
            refine wl_nil ?_
            try simp only [putAll, Act.put, List.setIfInBounds_toArray, List.set_cons_zero, List.set_cons_succ]
            go_wp2
            go_ret
            exact ⟨by rw [HR.out]; rfl, HXW.out.tr HXX.out⟩
          have dzN : decide ((0 : Int) < x.thn.length) = false := decide_eq_false (by omega)
          refine wl_do (some 68) (.bool false) rfl (by kernel_rfl) (rb_gtrI rfl (by kernel_rfl) (by kernel_rfl) dzN) ?_
          refine wl_many 4 _ [((some 69), .bool false), ((some 70), .bool false), ((some 71), .bool false), ((some 72), .int .i64 4)] rfl (by kernel_rfl) ?_
          refine wl_many 3 _ [((some 73), .bool true), ((some 74), .bool true), ((some 75), .pointer (some ⟨KX, 11, none⟩))] rfl (by kernel_rfl) ?_
          refine wl_do (some 76) (.slice Al x.els.length cl) rfl (by kernel_rfl) (rl_cs rfl (by kernel_rfl) (HK.out.cell (i := 11) (v := .slice Al x.els.length cl) rfl)) ?_
          refine wl_do (some 77) (.int .i64 x.els.length) rfl (by kernel_rfl) (by kernel_rfl) ?_
          by_cases hzS : 0 < x.els.length
          · have dzS : decide ((0 : Int) < x.els.length) = true := decide_eq_true (by omega)
            have HR : Hid (T = 1) := Lib.hid (by rw [HT.out, HFO.out, if_pos (by first | omega | (simp; omega)), orE_n (by decide)])
            refine wl_do (some 78) (.bool true) rfl (by kernel_rfl) (rb_gtrI rfl (by kernel_rfl) (by kernel_rfl) dzS) ?_
            refine wl_many 3 _ [((some 79), .bool true), ((some 80), .bool true), ((some 32), .bool true)] rfl (by kernel_rfl) ?_
            refine wl_nil ?_
            try simp only [putAll, Act.put, List.setIfInBounds_toArray, List.set_cons_zero, List.set_cons_succ]
            go_wp2
            go_ret
            exact ⟨by rw [HR.out]; rfl, HXW.out.tr HXX.out⟩
          have dzS : decide ((0 : Int) < x.els.length) = false := decide_eq_false (by omega)
          refine wl_do (some 78) (.bool false) rfl (by kernel_rfl) (rb_gtrI rfl (by kernel_rfl) (by kernel_rfl) dzS) ?_
          refine wl_many 3 _ [((some 79), .bool false), ((some 80), .bool false), ((some 32), .bool false)] rfl (by kernel_rfl) ?_
          refine wl_nil ?_
          try simp only [putAll, Act.put, List.setIfInBounds_toArray, List.set_cons_zero, List.set_cons_succ]
          have HF0 : Hid (FP = 0) := Lib.hid (by rw [HFO.out, if_neg (by rintro (h | h | h | h | h) <;> first | omega | simp at h), if_neg (by first | omega | decide)])
          go_wp2
          go_quiet (fail)
          go_wp2
          go_meet
          exact Lib.hid ⟨_, rfl, HXX.out.drN _, HF0.out, by omega⟩
    · obtain rfl : b7 = false := by rw [← H7.out]; rfl
      obtain rfl : b8 = true := by rw [← H8.out]; rfl
      go_upto_region 8 with fail
      refine wl_region ?_
      try dsimp only [List.append]
      refine wl_many 4 _ [((some 33), .bool false), ((some 34), .bool true), ((some 35), .bool true), ((some 36), .pointer (some ⟨KX, 3, none⟩))] rfl (by kernel_rfl) ?_
      refine wl_do (some 37) (.agg #[.int .i64 ik, .int .i64 iN, .slice Ai x.index.args.length ci]) rfl (by kernel_rfl) (run_loadRow 47 (.tmp 36) rfl elPE KX 3 (by kernel_rfl) [.int .i64 ik, .int .i64 iN, .slice Ai x.index.args.length ci] (blkRange HK.out 3 rfl) rfl (by kernel_rfl)) ?_
      refine wl_call (some 38) rfl (by kernel_rfl) 142 #[.agg #[.int .i64 ik, .int .i64 iN, .slice Ai x.index.args.length ci]] (by kernel_rfl) (HNI.out _ (HB0.out.tr (HXW.out.tr HXX.out))) ?_
      rintro r W3 ⟨rfl, hb⟩
      replace HXX := Lib.hid (HXX.out.tr hb)
      replace HK := Lib.hid (HK.out.keep hb)
      clear hb
      refine ⟨_, rfl, ?_⟩
      cases NI with
      | false =>
        have HR : Hid (T = 1) := Lib.hid (by rw [HT.out, HFO.out, if_pos (by simp), orE_n (by decide)])
        refine wl_many 43 _ [((some 39), .bool true), ((some 40), .bool true), ((some 41), .bool true), ((some 42), undef), ((some 43), undef), ((some 44), undef), ((some 45), undef), ((some 46), undef), ((some 47), undef), ((some 48), undef), ((some 49), undef), ((some 50), .bool true), ((some 51), .bool true), ((some 52), undef), ((some 53), undef), ((some 54), undef), ((some 55), undef), ((some 56), undef), ((some 57), undef), ((some 58), undef), ((some 59), undef), ((some 60), .bool true), ((some 61), .bool true), ((some 62), undef), ((some 63), undef), ((some 64), undef), ((some 65), undef), ((some 66), undef), ((some 67), undef), ((some 68), undef), ((some 69), undef), ((some 70), .bool true), ((some 71), .bool true), ((some 72), undef), ((some 73), undef), ((some 74), undef), ((some 75), undef), ((some 76), undef), ((some 77), undef), ((some 78), undef), ((some 79), undef), ((some 80), .bool true), ((some 32), .bool true)] rfl (by kernel_rfl) ?_
        refine wl_nil ?_
        try simp only [putAll, Act.put, List.setIfInBounds_toArray, List.set_cons_zero, List.set_cons_succ]
        go_wp2
        go_ret
        exact ⟨by rw [HR.out]; rfl, HXW.out.tr HXX.out⟩
      | true =>
        refine wl_many 14 _ [((some 39), .bool false), ((some 40), .bool false), ((some 41), .bool false), ((some 42), .bool true), ((some 43), .bool false), ((some 44), .bool false), ((some 45), undef), ((some 46), undef), ((some 47), undef), ((some 48), undef), ((some 49), .bool false), ((some 50), .bool false), ((some 51), .bool false), ((some 52), .int .i64 5)] rfl (by kernel_rfl) ?_
        refine wl_many 3 _ [((some 53), .bool true), ((some 54), .bool true), ((some 55), .pointer (some ⟨KX, 9, none⟩))] rfl (by kernel_rfl) ?_
        refine wl_do (some 56) (.slice Aa x.args.length ca) rfl (by kernel_rfl) (rl_es rfl (by kernel_rfl) (HK.out.cell (i := 9) (v := .slice Aa x.args.length ca) rfl)) ?_
        refine wl_do (some 57) (.int .i64 x.args.length) rfl (by kernel_rfl) (by kernel_rfl) ?_
        by_cases hzA : 0 < x.args.length
        · have dzA : decide ((0 : Int) < x.args.length) = true := decide_eq_true (by omega)
          have HR : Hid (T = 1) := Lib.hid (by rw [HT.out, HFO.out, if_pos (by first | omega | (simp; omega)), orE_n (by decide)])
          refine wl_do (some 58) (.bool true) rfl (by kernel_rfl) (rb_gtrI rfl (by kernel_rfl) (by kernel_rfl) dzA) ?_
          refine wl_many 23 _ [((some 59), .bool true), ((some 60), .bool true), ((some 61), .bool true), ((some 62), undef), ((some 63), undef), ((some 64), undef), ((some 65), undef), ((some 66), undef), ((some 67), undef), ((some 68), undef), ((some 69), undef), ((some 70), .bool true), ((some 71), .bool true), ((some 72), undef), ((some 73), undef), ((some 74), undef), ((some 75), undef), ((some 76), undef), ((some 77), undef), ((some 78), undef), ((some 79), undef), ((some 80), .bool true), ((some 32), .bool true)] rfl (by kernel_rfl) ?_
          refine wl_nil ?_
          try simp only [putAll, Act.put, List.setIfInBounds_toArray, List.set_cons_zero, List.set_cons_succ]
          go_wp2
          go_ret
          exact ⟨by rw [HR.out]; rfl, HXW.out.tr HXX.out⟩
        have dzA : decide ((0 : Int) < x.args.length) = false := decide_eq_false (by omega)
        refine wl_do (some 58) (.bool false) rfl (by kernel_rfl) (rb_gtrI rfl (by kernel_rfl) (by kernel_rfl) dzA) ?_
        refine wl_many 4 _ [((some 59), .bool false), ((some 60), .bool false), ((some 61), .bool false), ((some 62), .int .i64 5)] rfl (by kernel_rfl) ?_
        refine wl_many 3 _ [((some 63), .bool true), ((some 64), .bool true), ((some 65), .pointer (some ⟨KX, 10, none⟩))] rfl (by kernel_rfl) ?_
        refine wl_do (some 66) (.slice At x.thn.length ct) rfl (by kernel_rfl) (rl_cs rfl (by kernel_rfl) (HK.out.cell (i := 10) (v := .slice At x.thn.length ct) rfl)) ?_
        refine wl_do (some 67) (.int .i64 x.thn.length) rfl (by kernel_rfl) (by kernel_rfl) ?_
        by_cases hzN : 0 < x.thn.length
        · have dzN : decide ((0 : Int) < x.thn.length) = true := decide_eq_true (by omega)
          have HR : Hid (T = 1) := Lib.hid (by rw [HT.out, HFO.out, if_pos (by first | omega | (simp; omega)), orE_n (by decide)])
          refine wl_do (some 68) (.bool true) rfl (by kernel_rfl) (rb_gtrI rfl (by kernel_rfl) (by kernel_rfl) dzN) ?_
          refine wl_many 13 _ [((some 69), .bool true), ((some 70), .bool true), ((some 71), .bool true), ((some 72), undef), ((some 73), undef), ((some 74), undef), ((some 75), undef), ((some 76), undef), ((some 77), undef), ((some 78), undef), ((some 79), undef), ((some 80), .bool true), ((some 32), .bool true)] rfl (by kernel_rfl) ?_
          refine wl_nil ?_
          try simp only [putAll, Act.put, List.setIfInBounds_toArray, List.set_cons_zero, List.set_cons_succ]
          go_wp2
          go_ret
          exact ⟨by rw [HR.out]; rfl, HXW.out.tr HXX.out⟩
        have dzN : decide ((0 : Int) < x.thn.length) = false := decide_eq_false (by omega)
        refine wl_do (some 68) (.bool false) rfl (by kernel_rfl) (rb_gtrI rfl (by kernel_rfl) (by kernel_rfl) dzN) ?_
        refine wl_many 4 _ [((some 69), .bool false), ((some 70), .bool false), ((some 71), .bool false), ((some 72), .int .i64 5)] rfl (by kernel_rfl) ?_
        refine wl_many 3 _ [((some 73), .bool true), ((some 74), .bool true), ((some 75), .pointer (some ⟨KX, 11, none⟩))] rfl (by kernel_rfl) ?_
        refine wl_do (some 76) (.slice Al x.els.length cl) rfl (by kernel_rfl) (rl_cs rfl (by kernel_rfl) (HK.out.cell (i := 11) (v := .slice Al x.els.length cl) rfl)) ?_
        refine wl_do (some 77) (.int .i64 x.els.length) rfl (by kernel_rfl) (by kernel_rfl) ?_
        by_cases hzS : 0 < x.els.length
        · have dzS : decide ((0 : Int) < x.els.length) = true := decide_eq_true (by omega)
          have HR : Hid (T = 1) := Lib.hid (by rw [HT.out, HFO.out, if_pos (by first | omega | (simp; omega)), orE_n (by decide)])
          refine wl_do (some 78) (.bool true) rfl (by kernel_rfl) (rb_gtrI rfl (by kernel_rfl) (by kernel_rfl) dzS) ?_
          refine wl_many 3 _ [((some 79), .bool true), ((some 80), .bool true), ((some 32), .bool true)] rfl (by kernel_rfl) ?_
          refine wl_nil ?_
          try simp only [putAll, Act.put, List.setIfInBounds_toArray, List.set_cons_zero, List.set_cons_succ]
          go_wp2
          go_ret
          exact ⟨by rw [HR.out]; rfl, HXW.out.tr HXX.out⟩
        have dzS : decide ((0 : Int) < x.els.length) = false := decide_eq_false (by omega)
        refine wl_do (some 78) (.bool false) rfl (by kernel_rfl) (rb_gtrI rfl (by kernel_rfl) (by kernel_rfl) dzS) ?_
        refine wl_many 3 _ [((some 79), .bool false), ((some 80), .bool false), ((some 32), .bool false)] rfl (by kernel_rfl) ?_
        refine wl_nil ?_
        try simp only [putAll, Act.put, List.setIfInBounds_toArray, List.set_cons_zero, List.set_cons_succ]
        have HF0 : Hid (FP = 0) := Lib.hid (by rw [HFO.out, if_neg (by rintro (h | h | h | h | h) <;> first | omega | simp at h), if_neg (by first | omega | decide)])
        go_wp2
        go_quiet (fail)
        go_wp2
        go_meet
        exact Lib.hid ⟨_, rfl, HXX.out.drN _, HF0.out, by omega⟩
    · obtain rfl : b7 = false := by rw [← H7.out]; rfl
      obtain rfl : b8 = true := by rw [← H8.out]; rfl
      go_upto_region 8 with fail
      refine wl_region ?_
      try dsimp only [List.append]
      refine wl_many 4 _ [((some 33), .bool false), ((some 34), .bool true), ((some 35), .bool true), ((some 36), .pointer (some ⟨KX, 3, none⟩))] rfl (by kernel_rfl) ?_
      refine wl_do (some 37) (.agg #[.int .i64 ik, .int .i64 iN, .slice Ai x.index.args.length ci]) rfl (by kernel_rfl) (run_loadRow 47 (.tmp 36) rfl elPE KX 3 (by kernel_rfl) [.int .i64 ik, .int .i64 iN, .slice Ai x.index.args.length ci] (blkRange HK.out 3 rfl) rfl (by kernel_rfl)) ?_
      refine wl_call (some 38) rfl (by kernel_rfl) 142 #[.agg #[.int .i64 ik, .int .i64 iN, .slice Ai x.index.args.length ci]] (by kernel_rfl) (HNI.out _ (HB0.out.tr (HXW.out.tr HXX.out))) ?_
      rintro r W3 ⟨rfl, hb⟩
      replace HXX := Lib.hid (HXX.out.tr hb)
      replace HK := Lib.hid (HK.out.keep hb)
      clear hb
      refine ⟨_, rfl, ?_⟩
      cases NI with
      | false =>
        have HR : Hid (T = 1) := Lib.hid (by rw [HT.out, HFO.out, if_pos (by simp), orE_n (by decide)])
        refine wl_many 43 _ [((some 39), .bool true), ((some 40), .bool true), ((some 41), .bool true), ((some 42), undef), ((some 43), undef), ((some 44), undef), ((some 45), undef), ((some 46), undef), ((some 47), undef), ((some 48), undef), ((some 49), undef), ((some 50), .bool true), ((some 51), .bool true), ((some 52), undef), ((some 53), undef), ((some 54), undef), ((some 55), undef), ((some 56), undef), ((some 57), undef), ((some 58), undef), ((some 59), undef), ((some 60), .bool true), ((some 61), .bool true), ((some 62), undef), ((some 63), undef), ((some 64), undef), ((some 65), undef), ((some 66), undef), ((some 67), undef), ((some 68), undef), ((some 69), undef), ((some 70), .bool true), ((some 71), .bool true), ((some 72), undef), ((some 73), undef), ((some 74), undef), ((some 75), undef), ((some 76), undef), ((some 77), undef), ((some 78), undef), ((some 79), undef), ((some 80), .bool true), ((some 32), .bool true)] rfl (by kernel_rfl) ?_
        refine wl_nil ?_
        try simp only [putAll, Act.put, List.setIfInBounds_toArray, List.set_cons_zero, List.set_cons_succ]
        go_wp2
        go_ret
        exact ⟨by rw [HR.out]; rfl, HXW.out.tr HXX.out⟩
      | true =>
        refine wl_many 14 _ [((some 39), .bool false), ((some 40), .bool false), ((some 41), .bool false), ((some 42), .bool true), ((some 43), .bool false), ((some 44), .bool false), ((some 45), undef), ((some 46), undef), ((some 47), undef), ((some 48), undef), ((some 49), .bool false), ((some 50), .bool false), ((some 51), .bool false), ((some 52), .int .i64 6)] rfl (by kernel_rfl) ?_
        refine wl_many 3 _ [((some 53), .bool true), ((some 54), .bool true), ((some 55), .pointer (some ⟨KX, 9, none⟩))] rfl (by kernel_rfl) ?_
        refine wl_do (some 56) (.slice Aa x.args.length ca) rfl (by kernel_rfl) (rl_es rfl (by kernel_rfl) (HK.out.cell (i := 9) (v := .slice Aa x.args.length ca) rfl)) ?_
        refine wl_do (some 57) (.int .i64 x.args.length) rfl (by kernel_rfl) (by kernel_rfl) ?_
        by_cases hzA : 0 < x.args.length
        · have dzA : decide ((0 : Int) < x.args.length) = true := decide_eq_true (by omega)
          have HR : Hid (T = 1) := Lib.hid (by rw [HT.out, HFO.out, if_pos (by first | omega | (simp; omega)), orE_n (by decide)])
          refine wl_do (some 58) (.bool true) rfl (by kernel_rfl) (rb_gtrI rfl (by kernel_rfl) (by kernel_rfl) dzA) ?_
          refine wl_many 23 _ [((some 59), .bool true), ((some 60), .bool true), ((some 61), .bool true), ((some 62), undef), ((some 63), undef), ((some 64), undef), ((some 65), undef), ((some 66), undef), ((some 67), undef), ((some 68), undef), ((some 69), undef), ((some 70), .bool true), ((some 71), .bool true), ((some 72), undef), ((some 73), undef), ((some 74), undef), ((some 75), undef), ((some 76), undef), ((some 77), undef), ((some 78), undef), ((some 79), undef), ((some 80), .bool true), ((some 32), .bool true)] rfl (by kernel_rfl) ?_
          refine wl_nil ?_
          try simp only [putAll, Act.put, List.setIfInBounds_toArray, List.set_cons_zero, List.set_cons_succ]
          go_wp2
          go_ret
          exact ⟨by rw [HR.out]; rfl, HXW.out.tr HXX.out⟩
        have dzA : decide ((0 : Int) < x.args.length) = false := decide_eq_false (by omega)
        refine wl_do (some 58) (.bool false) rfl (by kernel_rfl) (rb_gtrI rfl (by kernel_rfl) (by kernel_rfl) dzA) ?_
        refine wl_many 4 _ [((some 59), .bool false), ((some 60), .bool false), ((some 61), .bool false), ((some 62), .int .i64 6)] rfl (by kernel_rfl) ?_
        refine wl_many 10 _ [((some 63), .bool false), ((some 64), .bool false), ((some 65), undef), ((some 66), undef), ((some 67), undef), ((some 68), undef), ((some 69), .bool false), ((some 70), .bool false), ((some 71), .bool false), ((some 72), .int .i64 6)] rfl (by kernel_rfl) ?_
        refine wl_many 9 _ [((some 73), .bool false), ((some 74), .bool false), ((some 75), undef), ((some 76), undef), ((some 77), undef), ((some 78), undef), ((some 79), .bool false), ((some 80), .bool false), ((some 32), .bool false)] rfl (by kernel_rfl) ?_
        refine wl_nil ?_
        try simp only [putAll, Act.put, List.setIfInBounds_toArray, List.set_cons_zero, List.set_cons_succ]
        have HF0 : Hid (FP = 0) := Lib.hid (by rw [HFO.out, if_neg (by rintro (h | h | h | h | h) <;> first | omega | simp at h), if_neg (by first | omega | decide)])
        go_wp2
        go_quiet (fail)
        go_wp2
        go_meet
        exact Lib.hid ⟨_, rfl, HXX.out.drN _, HF0.out, by omega⟩
    · obtain rfl : b7 = false := by rw [← H7.out]; rfl
      obtain rfl : b8 = true := by rw [← H8.out]; rfl
      go_upto_region 8 with fail
      refine wl_region ?_
      try dsimp only [List.append]
      refine wl_many 4 _ [((some 33), .bool false), ((some 34), .bool true), ((some 35), .bool true), ((some 36), .pointer (some ⟨KX, 3, none⟩))] rfl (by kernel_rfl) ?_
      refine wl_do (some 37) (.agg #[.int .i64 ik, .int .i64 iN, .slice Ai x.index.args.length ci]) rfl (by kernel_rfl) (run_loadRow 47 (.tmp 36) rfl elPE KX 3 (by kernel_rfl) [.int .i64 ik, .int .i64 iN, .slice Ai x.index.args.length ci] (blkRange HK.out 3 rfl) rfl (by kernel_rfl)) ?_
      refine wl_call (some 38) rfl (by kernel_rfl) 142 #[.agg #[.int .i64 ik, .int .i64 iN, .slice Ai x.index.args.length ci]] (by kernel_rfl) (HNI.out _ (HB0.out.tr (HXW.out.tr HXX.out))) ?_
      rintro r W3 ⟨rfl, hb⟩
      replace HXX := Lib.hid (HXX.out.tr hb)
      replace HK := Lib.hid (HK.out.keep hb)
      clear hb
      refine ⟨_, rfl, ?_⟩
      cases NI with
      | false =>
        have HR : Hid (T = 1) := Lib.hid (by rw [HT.out, HFO.out, if_pos (by simp), orE_n (by decide)])
        refine wl_many 43 _ [((some 39), .bool true), ((some 40), .bool true), ((some 41), .bool true), ((some 42), undef), ((some 43), undef), ((some 44), undef), ((some 45), undef), ((some 46), undef), ((some 47), undef), ((some 48), undef), ((some 49), undef), ((some 50), .bool true), ((some 51), .bool true), ((some 52), undef), ((some 53), undef), ((some 54), undef), ((some 55), undef), ((some 56), undef), ((some 57), undef), ((some 58), undef), ((some 59), undef), ((some 60), .bool true), ((some 61), .bool true), ((some 62), undef), ((some 63), undef), ((some 64), undef), ((some 65), undef), ((some 66), undef), ((some 67), undef), ((some 68), undef), ((some 69), undef), ((some 70), .bool true), ((some 71), .bool true), ((some 72), undef), ((some 73), undef), ((some 74), undef), ((some 75), undef), ((some 76), undef), ((some 77), undef), ((some 78), undef), ((some 79), undef), ((some 80), .bool true), ((some 32), .bool true)] rfl (by kernel_rfl) ?_
        refine wl_nil ?_
        try simp only [putAll, Act.put, List.setIfInBounds_toArray, List.set_cons_zero, List.set_cons_succ]
        go_wp2
        go_ret
        exact ⟨by rw [HR.out]; rfl, HXW.out.tr HXX.out⟩
      | true =>
        refine wl_many 14 _ [((some 39), .bool false), ((some 40), .bool false), ((some 41), .bool false), ((some 42), .bool true), ((some 43), .bool false), ((some 44), .bool false), ((some 45), undef), ((some 46), undef), ((some 47), undef), ((some 48), undef), ((some 49), .bool false), ((some 50), .bool false), ((some 51), .bool false), ((some 52), .int .i64 7)] rfl (by kernel_rfl) ?_
        refine wl_many 3 _ [((some 53), .bool true), ((some 54), .bool true), ((some 55), .pointer (some ⟨KX, 9, none⟩))] rfl (by kernel_rfl) ?_
        refine wl_do (some 56) (.slice Aa x.args.length ca) rfl (by kernel_rfl) (rl_es rfl (by kernel_rfl) (HK.out.cell (i := 9) (v := .slice Aa x.args.length ca) rfl)) ?_
        refine wl_do (some 57) (.int .i64 x.args.length) rfl (by kernel_rfl) (by kernel_rfl) ?_
        by_cases hzA : 0 < x.args.length
        · have dzA : decide ((0 : Int) < x.args.length) = true := decide_eq_true (by omega)
          have HR : Hid (T = 1) := Lib.hid (by rw [HT.out, HFO.out, if_pos (by first | omega | (simp; omega)), orE_n (by decide)])
          refine wl_do (some 58) (.bool true) rfl (by kernel_rfl) (rb_gtrI rfl (by kernel_rfl) (by kernel_rfl) dzA) ?_
          refine wl_many 23 _ [((some 59), .bool true), ((some 60), .bool true), ((some 61), .bool true), ((some 62), undef), ((some 63), undef), ((some 64), undef), ((some 65), undef), ((some 66), undef), ((some 67), undef), ((some 68), undef), ((some 69), undef), ((some 70), .bool true), ((some 71), .bool true), ((some 72), undef), ((some 73), undef), ((some 74), undef), ((some 75), undef), ((some 76), undef), ((some 77), undef), ((some 78), undef), ((some 79), undef), ((some 80), .bool true), ((some 32), .bool true)] rfl (by kernel_rfl) ?_
          refine wl_nil ?_
          try simp only [putAll, Act.put, List.setIfInBounds_toArray, List.set_cons_zero, List.set_cons_succ]
          go_wp2
          go_ret
          exact ⟨by rw [HR.out]; rfl, HXW.out.tr HXX.out⟩
        have dzA : decide ((0 : Int) < x.args.length) = false := decide_eq_false (by omega)
        refine wl_do (some 58) (.bool false) rfl (by kernel_rfl) (rb_gtrI rfl (by kernel_rfl) (by kernel_rfl) dzA) ?_
        refine wl_many 4 _ [((some 59), .bool false), ((some 60), .bool false), ((some 61), .bool false), ((some 62), .int .i64 7)] rfl (by kernel_rfl) ?_
        refine wl_many 10 _ [((some 63), .bool false), ((some 64), .bool false), ((some 65), undef), ((some 66), undef), ((some 67), undef), ((some 68), undef), ((some 69), .bool false), ((some 70), .bool false), ((some 71), .bool false), ((some 72), .int .i64 7)] rfl (by kernel_rfl) ?_
        refine wl_many 3 _ [((some 73), .bool true), ((some 74), .bool true), ((some 75), .pointer (some ⟨KX, 11, none⟩))] rfl (by kernel_rfl) ?_
        refine wl_do (some 76) (.slice Al x.els.length cl) rfl (by kernel_rfl) (rl_cs rfl (by kernel_rfl) (HK.out.cell (i := 11) (v := .slice Al x.els.length cl) rfl)) ?_
        refine wl_do (some 77) (.int .i64 x.els.length) rfl (by kernel_rfl) (by kernel_rfl) ?_
        by_cases hzS : 0 < x.els.length
        · have dzS : decide ((0 : Int) < x.els.length) = true := decide_eq_true (by omega)
          have HR : Hid (T = 1) := Lib.hid (by rw [HT.out, HFO.out, if_pos (by first | omega | (simp; omega)), orE_n (by decide)])
          refine wl_do (some 78) (.bool true) rfl (by kernel_rfl) (rb_gtrI rfl (by kernel_rfl) (by kernel_rfl) dzS) ?_
          refine wl_many 3 _ [((some 79), .bool true), ((some 80), .bool true), ((some 32), .bool true)] rfl (by kernel_rfl) ?_
          refine wl_nil ?_
          try simp only [putAll, Act.put, List.setIfInBounds_toArray, List.set_cons_zero, List.set_cons_succ]
          go_wp2
          go_ret
          exact ⟨by rw [HR.out]; rfl, HXW.out.tr HXX.out⟩
        have dzS : decide ((0 : Int) < x.els.length) = false := decide_eq_false (by omega)
        refine wl_do (some 78) (.bool false) rfl (by kernel_rfl) (rb_gtrI rfl (by kernel_rfl) (by kernel_rfl) dzS) ?_
        refine wl_many 3 _ [((some 79), .bool false), ((some 80), .bool false), ((some 32), .bool false)] rfl (by kernel_rfl) ?_
        refine wl_nil ?_
        try simp only [putAll, Act.put, List.setIfInBounds_toArray, List.set_cons_zero, List.set_cons_succ]
        have HF0 : Hid (FP = 0) := Lib.hid (by rw [HFO.out, if_neg (by rintro (h | h | h | h | h) <;> first | omega | simp at h), if_neg (by first | omega | decide)])
        go_wp2
        go_quiet (fail)
        go_wp2
        go_meet
        exact Lib.hid ⟨_, rfl, HXX.out.drN _, HF0.out, by omega⟩
  case rest =>
    obtain ⟨wx, rfl, hbW, hF0, hA3⟩ := hcut.out
    replace HT : Hid (T = ES) := Lib.hid (by rw [HT.out, hF0, orE_z])
    replace HX := Lib.hid (HX.out.tr hbW)
    replace HK := Lib.hid (HK.out.keep hbW)
    clear hcut hF0 hbW HFO HFN HNI HNE HPS HVP hk
    have hOB : ownE x = (if b7 then [x.index] else []) ++ (if b8 then [x.expr] else []) := by rw [HOE.out, ← H7.out, ← H8.out]; simp
    have HOB := Lib.hid hOB
    clear hOB HOE H7 H8
    go_upto_if 100 with fail
    have hsz : KX + 1 ≤ wx.heap.size := HK.out.lt
    go_cut [9] from 101 to 105 (fun l wy => Hid (∃ W, W = wy ∧ Bel w W ∧ Blk W KX 120 #[.int .i64 k, .int .i64 xv, .int .i64 xf, .int .i64 ik, .int .i64 iN, .slice Ai x.index.args.length ci, .int .i64 ek, .int .i64 eN, .slice Ae x.expr.args.length ce, .slice Aa x.args.length ca, .slice At x.thn.length ct, .slice Al x.els.length cl] ∧ RowE w0 W (KX + 1) l (if b7 then [x.index] else [])))
    case first =>
      cases b7 with
      | false =>
        go_wp2
        go_meet
        exact Lib.hid ⟨_, rfl, HX.out, HK.out, [], World.ownsRow_nil _ _ _ _, fun u hu => by simp at hu, fun i y hy => by simp at hy⟩
      | true =>
        have q3 := HK.out.cell (i := 3) (v := .int .i64 ik) rfl
        have q4 := HK.out.cell (i := 4) (v := .int .i64 iN) rfl
        have q5 := HK.out.cell (i := 5) (v := .slice Ai x.index.args.length ci) rfl
        go_wp2_with (at_builtin; refine wpl_app wx rfl (.tmp 101) (.tmp 104) 45 rfl (KX + 1) elPE (.slice none 0 0) 0 [] rfl (World.ownsRow_nil _ _ _ _) [.int .i64 ik, .int .i64 iN, .slice Ai x.index.args.length ci] rfl rfl (by intro u hu; simp at hu; rcases hu with rfl | rfl | rfl <;> rfl) (by simp only [maxLen]; omega) (by omega) hsz ?_; intro g2 cap W4 hown4 hg4 _; have HO4 := Lib.hid hown4; have HG4 := Lib.hid hg4; clear hown4 hg4)
        go_meet
        exact Lib.hid ⟨_, rfl, Below.grown HX.out HG4.out HX.out.size (fun k hk => by simp [Value.ownBlock] at hk), HK.out.grown HG4.out (by simp [Value.ownBlock]), RowE.one HO4.out HIX.out⟩
    case rest =>
      obtain ⟨wy, rfl, hb1, hk1, hr1⟩ := hcut.out
      have HR1 := Lib.hid hr1
      replace HX := Lib.hid hb1
      replace HK := Lib.hid hk1
      clear hcut hb1 hr1 hk1 hsz
      obtain ⟨LI, hLI⟩ : ∃ l : List PE, (if b7 = true then [x.index] else []) = l := ⟨_, rfl⟩
      rw [hLI] at HR1 HOB
      have hl1 : LI.length ≤ 1 := by rw [← hLI]; split <;> simp
      clear hLI
      obtain ⟨A5, c5, ce5, rfl, -⟩ := HR1.out.flat
      go_upto_if 106 with fail
      have hsz : KX + 1 ≤ wy.heap.size := HK.out.lt
      go_cut [9] from 107 to 111 (fun l wz => Hid (∃ W, W = wz ∧ Bel w W ∧ Blk W KX 120 #[.int .i64 k, .int .i64 xv, .int .i64 xf, .int .i64 ik, .int .i64 iN, .slice Ai x.index.args.length ci, .int .i64 ek, .int .i64 eN, .slice Ae x.expr.args.length ce, .slice Aa x.args.length ca, .slice At x.thn.length ct, .slice Al x.els.length cl] ∧ RowE w0 W (KX + 1) l (ownE x)))
      case first =>
        cases b8 with
        | false =>
          go_wp2
          go_meet
          exact Lib.hid ⟨_, rfl, HX.out, HK.out, by rw [HOB.out]; simpa using HR1.out⟩
        | true =>
          obtain ⟨cells, h1, h2, h3⟩ := HR1.out
          have HO := Lib.hid h1
          clear h1
          have q6 := HK.out.cell (i := 6) (v := .int .i64 ek) rfl
          have q7 := HK.out.cell (i := 7) (v := .int .i64 eN) rfl
          have q8 := HK.out.cell (i := 8) (v := .slice Ae x.expr.args.length ce) rfl
          go_wp2_with (at_builtin; go_loud (refine wpl_app wy rfl (.tmp 107) (.tmp 110) 45 rfl (KX + 1) elPE (.slice A5 LI.length c5) LI.length cells rfl HO.out [.int .i64 ek, .int .i64 eN, .slice Ae x.expr.args.length ce] rfl rfl (by intro u hu; simp at hu; rcases hu with rfl | rfl | rfl <;> rfl) (by simp only [maxLen]; omega) (by omega) hsz ?_); intro g2 cap W4 hown4 hg4 _; have HO4 := Lib.hid hown4; have HG4 := Lib.hid hg4; clear hown4 hg4)
          go_meet
          exact Lib.hid ⟨_, rfl, Below.grown HX.out HG4.out HX.out.size (fun k hk => by have := (HO.out.lt k hk).1; omega), HK.out.grown HG4.out (fun he => by have := (HO.out.lt KX he.symm).1; omega), by rw [HOB.out]; exact RowE.app (ys := [x.expr]) HO.out h2 h3 (peR_one HEX.out) HEX.out.chunk HO4.out⟩
      case rest =>
        obtain ⟨wz, rfl, hb2, hk2, hr2⟩ := hcut.out
        have HR2 := Lib.hid hr2
        replace HX := Lib.hid hb2
        replace HK := Lib.hid hk2
        clear hcut hb2 hr2 hk2 hsz HR1 HOB HIX HEX
        obtain ⟨A6, c6, ce6, rfl, -⟩ := HR2.out.flat
        generalize hOL : ownE x = OL at *
        have q9 := HK.out.cell (i := 9) (v := .slice Aa x.args.length ca) rfl
        have HW4 := Lib.hid (Blk.new wz 45 #[.slice A6 OL.length c6, .slice Aa x.args.length ca])
        have HBZ : Hid (Bel wz (wz.alloc (.cells #[.slice A6 OL.length c6, .slice Aa x.args.length ca] 45))) := Lib.hid ((Bel.rfl_ wz).al _)
        have HCC := Lib.hid (fun W (hb : Bel wz W) (hbk : Blk W wz.heap.size 45 #[.slice A6 OL.length c6, .slice Aa x.args.length ca]) => concat_any w0 W wz.heap.size _ _ OL x.args 2 hbk ⟨Nat.le_refl _, by decide⟩ (HB0.out.tr (HX.out.tr hb)) (by omega) ((HR2.out.keep hb).flat) (HSA.out.flatE (HB0.out.tr (HX.out.tr hb))))
        go_wp2_with fail
        refine (HCC.out _ HBZ.out HW4.out).mono ?_
        rintro r w5 ⟨v5, rfl, hs5, hb5⟩
        have HS5 := Lib.hid hs5
        replace HX := Lib.hid (HX.out.tr (HBZ.out.tr hb5))
        clear hb5 hs5 HBZ HW4 HCC HR2 HSA HK q9
        have HJ0 : Hid (errPs f.sizes ((OL ++ x.args).drop 0) = T) := Lib.hid (by rw [HT.out]; exact hES)
        generalize hLL : OL ++ x.args = LL at *
        clear hLL hES hOL
        obtain ⟨A7, c7, rfl, hl7⟩ := sl_lit HS5.out
        go_wp2
        go_loopw [118] (fun i wr => ∃ j : Nat, i = .int .i64 j ∧ j ≤ LL.length ∧ Hid (errPs f.sizes (LL.drop j) = T) ∧ Hid (Bel w5 wr)) (fun i _ => LL.length - (intOf i).toNat)
        case atStart => exact ⟨0, rfl, by omega, HJ0, Bel.rfl_ _⟩
        case round =>
          obtain ⟨j, rfl, hj, HJ, HW⟩ := hrel
          clear HJ0
          by_cases hlt : j < LL.length
          rotate_left
          · have HR : Hid (0 = T) := Lib.hid (by rw [← HJ.out, errPs_end (by omega)])
            go_wp2
            go_ret
            exact ⟨by rw [← HR.out]; rfl, HX.out.tr HW.out⟩
          obtain ⟨q, hq⟩ : ∃ e, LL[j]? = some e := ⟨_, List.getElem?_eq_getElem hlt⟩
          obtain ⟨b, o, rfl, hA⟩ := HS5.out.lies (by omega)
          obtain ⟨B, mm, cc7, hs, y0, y1, y2⟩ := peR.cells hA hq
          replace y0 := HW.out.cell y0
          replace y1 := HW.out.cell y1
          replace y2 := HW.out.cell y2
          replace HJ : Hid (orE (q.err f.sizes) (errPs f.sizes (LL.drop (j + 1))) = T) := Lib.hid (by rw [← errPs_drop hq]; exact HJ.out)
          have HSL := Lib.hid (hs.keep HW.out)
          have HQV : Hid (∀ W, Bel wr W → PEV W q (.agg #[.int .i64 q.kind, .int .i64 q.n, .slice B mm cc7])) := Lib.hid fun W hb => ⟨_, rfl, HSL.out.keep hb⟩
          clear hq hs hA HSL
          have HCQ := Lib.hid (fun W (hb : Bel wr W) => HEE.out q _ W (HB0.out.tr (HX.out.tr (HW.out.tr hb))) (HQV.out W hb))
          generalize q.kind = qk at *
          generalize q.n = qn at *
          generalize q.err f.sizes = QE at *
          generalize hF : errPs f.sizes (LL.drop (j + 1)) = FF at *
          have HKY := Lib.hid (Blk.new wr 47 #[.int .i64 qk, .int .i64 qn, .slice B mm cc7])
          have HWY : Hid (Bel wr (wr.alloc (.cells #[.int .i64 qk, .int .i64 qn, .slice B mm cc7] 47))) := Lib.hid ((Bel.rfl_ wr).al _)
          have HBG := Lib.hid (HBK.out.keep (HX.out.tr (HW.out.tr HWY.out)))
          go_upto_region 20 with fail
          clear y0 y1 y2
          generalize wr.alloc _ = WX at *
          generalize wr.heap.size = KY at *
          refine wp_region_held_drew (S := fun W => Bel WX W) (by kernel_rfl) ((Bel.rfl_ WX).dr) (fun hS => ?_)
          refine rt_take (i := 0) (some 122) (.agg #[.int .i64 qk, .int .i64 qn, .slice B mm cc7]) rfl rfl (by kernel_rfl) (by kernel_rfl) (by kernel_rfl) (fun _ _ _ h => h) (by kernel_rfl) hS (fun W hb => run_loadRow 47 (.tmp 11) rfl elPE KY 0 (by kernel_rfl) [.int .i64 qk, .int .i64 qn, .slice B mm cc7] (blkRange (HKY.out.keep hb) 0 rfl) rfl (by kernel_rfl)) ?_
          refine rt_take (i := 1) (some 123) (.pointer (some ⟨g, 0, none⟩)) rfl rfl (by kernel_rfl) (by kernel_rfl) (by kernel_rfl) (fun _ _ _ h => h) (by kernel_rfl) hS (fun W _ => by kernel_rfl) ?_
          refine rt_take (i := 2) (some 124) (.pointer (some ⟨g, 0, none⟩)) rfl rfl (by kernel_rfl) (by kernel_rfl) (by kernel_rfl) (fun _ _ _ h => h) (by kernel_rfl) hS (fun W _ => by kernel_rfl) ?_
          refine rt_take (i := 3) (some 125) (.pointer (some ⟨g, 1, none⟩)) rfl rfl (by kernel_rfl) (by kernel_rfl) (by kernel_rfl) (fun _ _ _ h => h) (by kernel_rfl) hS (fun W _ => by kernel_rfl) ?_
          refine rt_take (i := 4) (some 126) (.pointer (some ⟨g, 2, none⟩)) rfl rfl (by kernel_rfl) (by kernel_rfl) (by kernel_rfl) (fun _ _ _ h => h) (by kernel_rfl) hS (fun W _ => by kernel_rfl) ?_
          refine rt_take (i := 5) (some 127) (.slice Az f.sizes.length cz) rfl rfl (by kernel_rfl) (by kernel_rfl) (by kernel_rfl) (fun _ _ _ h => h) (by kernel_rfl) hS (fun W hb => rl_is rfl (by kernel_rfl) ((HBG.out.keep hb).cell (i := 2) (v := .slice Az f.sizes.length cz) rfl)) ?_
          refine rt_call (i := 6) (some 128) (by kernel_rfl) rfl rfl (by kernel_rfl) 66 #[.agg #[.int .i64 qk, .int .i64 qn, .slice B mm cc7], .slice Az f.sizes.length cz] (by kernel_rfl) (HCQ.out _ (HWY.out.tr hS)) ?_
          rintro e W9 ⟨rfl, hb⟩
          refine ⟨_, rfl, hS.tr hb, fun hS => ?_⟩
          refine rt_take (i := 7) (some 12) (.int .i64 QE) rfl rfl (by kernel_rfl) (by kernel_rfl) (by kernel_rfl) (fun _ _ _ h => h) (by kernel_rfl) hS (fun W _ => by kernel_rfl) ?_
          refine wpAnyH_done (by kernel_rfl) ?_ _
          try simp only [Act.put, List.setIfInBounds_toArray, List.set_cons_zero, List.set_cons_succ]
          have HY := Lib.hid (HWY.out.tr hS)
          clear hS
          by_cases hq0 : QE = 0
          · subst hq0
            replace HJ : Hid (FF = T) := Lib.hid (by rw [← HJ.out, orE_z])
            go_wp2
            go_roundw
            case rel => exact ⟨j + 1, by go_num, by omega, Lib.hid (by rw [hF]; exact HJ.out), Lib.hid (HW.out.tr HY.out)⟩
            case measure => simp [intOf]; omega
          · have dq : (QE != 0) = true := by simpa using hq0
            replace HJ : Hid (QE = T) := Lib.hid (by rw [← HJ.out, orE_n hq0])
            go_wp2
            go_ret
            exact ⟨by rw [← HJ.out]; rfl, HX.out.tr (HW.out.tr HY.out)⟩
end Go.Proofs.Ytgkpplbomciehaa
