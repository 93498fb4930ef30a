/- What an expression is worth, by the program: walked. New variables of a frame: walked. A run tells an event, and ends: walked. The memory of the document's machine, and what turns it. Each lemma states its own conditions. -/
import Derived.Test.YtgkpplbomciehaaTrr17
import Derived.Laws.MakeOwn
import Derived.Test.YtgkpplbomciehaaTrr04
namespace Go.Proofs.Ytgkpplbomciehaa
open Go.RowKit
/-- one of the variables -/
theorem vars_at {W : World} {vv : Value} {vs : List (List Int)} (h : Sl intR.slice W vv vs) {i : Nat} {l : List Int} (hl : vs[i]? = some l) : ∃ b o c A cl, vv = .slice (some ⟨b, o, none⟩) vs.length c ∧ W.cell? ⟨b, o + i, none⟩ = some (.slice A l.length cl) ∧ Sl intR W (.slice A l.length cl) l := by
  obtain ⟨A, c, rfl, -⟩ := sl_lit h
  obtain ⟨b, o, cs, rfl, hr, hc⟩ := h.elem hl
  obtain ⟨v, rfl, hv⟩ := hr
  obtain ⟨A', cl, rfl, -⟩ := sl_lit hv
  have := hc 0 _ rfl
  exact ⟨b, o, c, A', cl, rfl, by simpa [Rep.slice] using this, hv⟩
theorem vars_cell {W : World} {A : Option Addr} {n c : Nat} {l : List Int} (h : Sl intR W (.slice A n c) l) {j : Nat} {x : Int} (hx : l[j]? = some x) : ∃ b o, A = some ⟨b, o, none⟩ ∧ W.cell? ⟨b, o + j, none⟩ = some (.int .i64 x) := by
  obtain ⟨b, o, rfl, hA⟩ := h.lies (by have := (List.getElem?_eq_some_iff.1 hx).1; omega)
  exact ⟨b, o, rfl, intR.cell hA hx⟩
theorem getD_of {α : Type} {l : List α} {i : Nat} {x d : α} (h : l[i]? = some x) : l.getD i d = x := by rw [List.getD_eq_getElem?_getD, h]; rfl
def ValsIs (F : Nat) (z : List Int) (vs : List (List Int)) (e : PE) : Prop := e.parts z = 0 → ∀ (val vv : Value) (W : World), PEV W e val → Sl intR.slice W vv vs → Calls Try.prog F #[val, vv] W fun r w' => r = .returned (.tuple #[.int .i64 (e.val vs).1, .int .i64 (e.val vs).2]) ∧ Bel W w'
set_option maxRecDepth 20000 in
set_option maxHeartbeats 8000000 in
theorem val_step (z : List Int) (vs : List (List Int)) (hf : Fits z vs) (k n : Int) (args : List PE) (IH : ∀ x ∈ args, ValsIs 70 z vs x) : ValsIs 70 z vs (.mk k n args) := by
  intro hp val vv w h hs
  obtain ⟨hpp, hpa⟩ := PE.parts_ok hp
  obtain ⟨k1, k10, har, hnum, hvar, hone, -⟩ := partP_ok hpp
  simp only [PE.kind, PE.n, PE.args] at k1 k10 har hnum hvar hone
  obtain ⟨v, rfl, hv⟩ := h
  simp only [PE.kind, PE.n, PE.args] at hv ⊢
  obtain ⟨A, c, rfl, hll⟩ := sl_lit hv
  have HT : Hid ((PE.mk k n args).val vs = if k = 1 then (n, 0) else if k = 2 then (cellV vs n 0, 0) else valOf k n vs (args.map (PE.val vs))) := Lib.hid (by rw [PE.val, valP_map])
  have HPA := Lib.hid hpa
  have HI := Lib.hid IH
  have HV := Lib.hid hv
  have HS := Lib.hid hs
  have HB : Hid (Bel w (w.alloc (.cells #[.int .i64 k, .int .i64 n, .slice A args.length c] 47))) := Lib.hid ((Bel.rfl_ w).al _)
  have HK := Lib.hid (Blk.new w 47 #[.int .i64 k, .int .i64 n, .slice A args.length c])
  clear hp hpp hpa IH hv hs
  generalize (PE.mk k n args).val vs = T at *
  by_cases e1 : k = 1
  · subst e1
    have HR : Hid (T = (n, 0)) := Lib.hid (by rw [HT.out, if_pos rfl])
    clear hnum hvar hone har
    go_enter Try.func70, Try.ntmps70
    go_wp2
    go_ret2
    exact ⟨by rw [HR.out]; rfl, HB.out⟩
  have d1 : (k == 1) = false := by simpa using e1
  have hvl : vs.length = z.length := hf.1
  by_cases e2 : k = 2
  · subst e2
    obtain ⟨hn0, hn1⟩ := hvar (Or.inl rfl)
    obtain ⟨l, hl⟩ : ∃ l, vs[n.toNat]? = some l := ⟨_, List.getElem?_eq_getElem (by omega)⟩
    have hl1 := (hf.2 _ _ hl).1 (hone rfl)
    obtain ⟨x, hx⟩ : ∃ x, l[0]? = some x := ⟨_, List.getElem?_eq_getElem (by omega)⟩
    have HR : Hid (T = (x, 0)) := Lib.hid (by rw [HT.out, if_neg (by decide), if_pos rfl]; unfold cellV; rw [getD_of hl]; show (l.getD 0 0, (0 : Int)) = _; rw [getD_of hx])
    obtain ⟨b, o, cv, A2, cl, rfl, hc1, hsl⟩ := vars_at HS.out hl
    obtain ⟨b2, o2, rfl, hc2⟩ := vars_cell hsl hx
    have c1 := HB.out.cell hc1
    have c2 := HB.out.cell hc2
    rw [Nat.add_zero] at c2
    have i1 : n < vs.length := by omega
    have i2 : (0 : Int) < l.length := by omega
    have i3 : 0 < l.length := by omega
    clear hnum hvar hone har hc1 hc2 hsl hl hx
    go_enter Try.func70, Try.ntmps70
    go_wp2
    go_ret2
    exact ⟨by rw [HR.out]; rfl, HB.out⟩
  have d2 : (k == 2) = false := by simpa using e2
  obtain ⟨x, t, rfl⟩ : ∃ x t, args = x :: t := by
    cases args with
    | nil => unfold arityE at har; simp at har; omega
    | cons x t => exact ⟨x, t, rfl⟩
  replace HT : Hid (T = valOf k n vs (x.val vs :: t.map (PE.val vs))) := Lib.hid (by rw [HT.out, if_neg e1, if_neg e2]; rfl)
  rw [valOf_cons] at HT
  obtain ⟨bA, oA, rfl, hA⟩ := HV.out.lies (by simp)
  obtain ⟨B, mm, cc, hs0, y0, y1, y2⟩ := peR.cells hA (k := 0) (x := x) rfl
  simp only [Nat.zero_mul, Nat.add_zero] at y0 y1 y2
  replace y0 := HB.out.cell y0
  replace y1 := HB.out.cell y1
  replace y2 := HB.out.cell y2
  have HSX := Lib.hid hs0
  have HC := Lib.hid (fun W (hb : Bel w W) => HI.out x (by simp) (HPA.out x (by simp)) (.agg #[.int .i64 x.kind, .int .i64 x.n, .slice B mm cc]) vv W ⟨_, rfl, HSX.out.keep hb⟩ (HS.out.keep hb))
  have i0 : (0 : Int) < (x :: t).length := by simp
  have i0' : 0 < (x :: t).length := by simp
  clear hs0 HSX hnum hone
  generalize x.val vs = X at *
  generalize x.kind = xk at *
  generalize x.n = xn at *
  obtain ⟨X1, X2⟩ := X
  dsimp only at HT HC
  have q2 := HK.out.cell (i := 2) (v := .slice (some ⟨bA, oA, none⟩) (x :: t).length c) rfl
  generalize hTL : (x :: t).length = TL at *
  go_enter Try.func70, Try.ntmps70
  go_wp2_with fail
  refine (HC.out _ HB.out).mono ?_
  rintro r w1 ⟨rfl, hb⟩
  have k0 := hb.cell (HK.out.cell (i := 0) (v := .int .i64 k) rfl)
  have k1' := hb.cell (HK.out.cell (i := 1) (v := .int .i64 n) rfl)
  have k2' := hb.cell q2
  have HB1 := Lib.hid (HB.out.tr hb)
  clear hb y0 y1 y2 q2 HC
  by_cases h0 : X2 ≠ 0
  · have d0 : (X2 != 0) = true := by simpa using h0
    have HR : Hid (T = (0, X2)) := Lib.hid (by rw [HT.out, if_pos h0])
    clear h0
    go_wp2
    go_ret2
    exact ⟨by rw [HR.out]; rfl, HB1.out⟩
  have h00 : X2 = 0 := by omega
  subst h00
  rw [if_neg (by decide)] at HT
  clear h0
  by_cases e3 : k = 3
  · subst e3
    rw [if_pos rfl] at HT
    obtain ⟨hn0, hn1⟩ := hvar (Or.inr rfl)
    obtain ⟨l, hl⟩ : ∃ l, vs[n.toNat]? = some l := ⟨_, List.getElem?_eq_getElem (by omega)⟩
    rw [getD_of hl] at HT
    obtain ⟨b, o, cv, A2, cl, rfl, hc1, hsl⟩ := vars_at HS.out hl
    have c1 := HB1.out.cell hc1
    have i1 : n < vs.length := by omega
    by_cases hx0 : X1 < 0
    · have dx : decide (X1 < 0) = true := decide_eq_true hx0
      have HR : Hid (T = (0, 3)) := Lib.hid (by rw [HT.out, if_neg (by omega)])
      clear HT hc1 hsl hl hvar har
      go_wp2
      go_ret2
      exact ⟨by rw [HR.out]; rfl, HB1.out⟩
    have dx : decide (X1 < 0) = false := decide_eq_false hx0
    by_cases hx1 : X1 ≥ l.length
    · have dy : decide (X1 ≥ (l.length : Int)) = true := decide_eq_true hx1
      have HR : Hid (T = (0, 3)) := Lib.hid (by rw [HT.out, if_neg (by omega)])
      clear HT hc1 hsl hl hvar har
      go_wp2
      go_ret2
      exact ⟨by rw [HR.out]; rfl, HB1.out⟩
    have dy : decide (X1 ≥ (l.length : Int)) = false := decide_eq_false hx1
    obtain ⟨u, hu⟩ : ∃ u, l[X1.toNat]? = some u := ⟨_, List.getElem?_eq_getElem (by omega)⟩
    obtain ⟨b2, o2, rfl, hc2⟩ := vars_cell hsl hu
    have c2 := HB1.out.cell hc2
    have HR : Hid (T = (u, 0)) := Lib.hid (by rw [HT.out, if_pos (by omega)]; unfold cellV; rw [getD_of hl, getD_of hu])
    have j0 : 0 ≤ X1 := by omega
    have j1 : X1 < l.length := by omega
    clear HT hc1 hc2 hsl hl hu hvar har hx0 hx1
    go_wp2
    go_ret2
    exact ⟨by rw [HR.out]; rfl, HB1.out⟩
  have d3 : (k == 3) = false := by simpa using e3
  rw [if_neg e3] at HT
  obtain ⟨y, t2, rfl⟩ : ∃ y t2, t = y :: t2 := by
    cases t with
    | nil => unfold arityE at har; rw [if_neg (by omega), if_neg (by omega), if_neg e3] at har; simp at hTL; omega
    | cons y t2 => exact ⟨y, t2, rfl⟩
  obtain ⟨B2, mm2, cc2, hs1, z0, z1, z2⟩ := peR.cells hA (k := 1) (x := y) rfl
  simp only [Nat.one_mul] at z0 z1 z2
  replace z0 := HB1.out.cell z0
  replace z1 := HB1.out.cell z1
  replace z2 := HB1.out.cell z2
  rw [Nat.add_assoc] at z1 z2
  have HSY := Lib.hid hs1
  have HC2 := Lib.hid (fun W (hb : Bel w W) => HI.out y (by simp) (HPA.out y (by simp)) (.agg #[.int .i64 y.kind, .int .i64 y.n, .slice B2 mm2 cc2]) vv W ⟨_, rfl, HSY.out.keep hb⟩ (HS.out.keep hb))
  have i4 : (1 : Int) < TL := by simp at hTL; omega
  have i5 : 1 < TL := by omega
  clear hs1 HSY hvar har
  replace HT : Hid (T = if (y.val vs).2 ≠ 0 then (0, (y.val vs).2) else opV k X1 (y.val vs).1) := Lib.hid HT.out
  generalize y.val vs = Y at *
  generalize y.kind = yk at *
  generalize y.n = yn at *
  obtain ⟨Y1, Y2⟩ := Y
  dsimp only at HT HC2
  go_wp2_with fail
  refine (HC2.out _ HB1.out).mono ?_
  rintro r w2 ⟨rfl, hb⟩
  replace k0 := hb.cell k0
  have HB2 := Lib.hid (HB1.out.tr hb)
  clear hb z0 z1 z2 HC2 k1' k2'
  by_cases h1 : Y2 ≠ 0
  · have dd : (Y2 != 0) = true := by simpa using h1
    have HR : Hid (T = (0, Y2)) := Lib.hid (by rw [HT.out, if_pos h1])
    clear h1
    go_wp2
    go_ret2
    exact ⟨by rw [HR.out]; rfl, HB2.out⟩
  have h11 : Y2 = 0 := by omega
  subst h11
  have HR : Hid (T = opV k X1 Y1) := Lib.hid (by rw [HT.out, if_neg (by decide)])
  have HOP := Lib.hid (op_any k X1 Y1 w2)
  generalize opV k X1 Y1 = Z at *
  clear h1
  go_wp2_with fail
  refine HOP.out.mono ?_
  rintro r w3 ⟨rfl, rfl⟩
  go_wp2
  go_ret2
  exact ⟨by rw [HR.out]; rfl, HB2.out⟩
theorem val_any (z : List Int) (vs : List (List Int)) (hf : Fits z vs) : ∀ e : PE, ValsIs 70 z vs e :=
  PE.ind fun k n args ih => val_step z vs hf k n args ih
theorem mk_ints (m : Nat) (hm : m ≤ 4000) (w : World) : (Instr.makeSlice 23 (.int .i64 m) (.int .i64 m)).run Try.prog w = .ok (.slice (some ⟨w.heap.size, 0, none⟩) m m) (w.alloc (.cells (intCells (List.replicate m 0)) 3)) := by
  have h2 : (Try.prog.info? 3).map (fun i => (i.zero, i.size, i.bytes)) = some (some (.int .i64 0), 1, 8) := by kernel_rfl
  obtain ⟨i, hi, hz0, hz1, hz2⟩ := info_parts h2
  have hr := run_make (P := Try.prog) w 23 3 i _ Try.underlying23 hi hz0 .i64 .i64 m m (by omega) (by omega) (by rw [hz2]; omega) (by omega)
  rw [hz1, Int.toNat_natCast] at hr
  have hc : madeCells (Value.cells (.int .i64 0)) (m * 1) = intCells (List.replicate m 0) := by
    unfold intCells madeCells
    apply Array.ext
    · simp
    · intro j h1 h3
      simp [Value.cells, Nat.mod_one]
  rw [hc] at hr
  exact hr
/-- so many cells a variable has -/
def cellsN (n : Int) : Nat := if n = 0 then 1 else n.toNat
theorem zeroV_take {z : List Int} {j : Nat} {n : Int} (h : z[j]? = some n) : zeroV (z.take (j + 1)) = zeroV (z.take j) ++ [List.replicate (cellsN n) 0] := by
  unfold zeroV cellsN
  rw [List.take_add_one, h, List.map_append]
  rfl
set_option maxRecDepth 20000 in
set_option maxHeartbeats 4000000 in
theorem cells_any (z : List Int) (hz : ∀ n ∈ z, 0 ≤ n ∧ n ≤ 8) (hl : z.length ≤ 20) (v : Value) (w : World) (h : Sl intR w v z) :
    Calls Try.prog 86 #[v] w fun r w' => ∃ u, r = .returned u ∧ VarsO w' w.heap.size u (zeroV z) ∧ Bel w w' := by
  have HSL := Lib.hid h
  obtain ⟨A, c, rfl, hll⟩ := sl_lit h
  have HZ := Lib.hid hz
  clear h hz
  go_enter Try.func86, Try.ntmps86
  go_wp2
  go_loopw [3, 8] (fun a i wr => ∃ j : Nat, i = .int .i64 j ∧ j ≤ z.length ∧ Hid (VarsO wr w.heap.size a (zeroV (z.take j))) ∧ Hid (Bel w wr)) (fun _ i _ => z.length - (intOf i).toNat)
  case atStart => exact ⟨0, rfl, Nat.zero_le _, VarsO.nil w w.heap.size, Bel.rfl_ _⟩
  case round =>
    obtain ⟨j, rfl, hj, HV, HB⟩ := hrel
    by_cases hlt : j < z.length
    rotate_left
    · have hjl : j = z.length := by omega
      subst hjl
      go_wp2
      go_ret
      exact ⟨_, rfl, by have := HV.out; rw [List.take_length] at this; exact this, HB.out⟩
    obtain ⟨n, hn⟩ : ∃ n, z[j]? = some n := ⟨_, List.getElem?_eq_getElem hlt⟩
    obtain ⟨hn0, hn8⟩ := HZ.out n (List.mem_of_getElem? hn)
    obtain ⟨b, o, rfl, hA⟩ := (HSL.out.keep HB.out).lies (by omega)
    have hc := intR.cell hA hn
    have HT := Lib.hid (zeroV_take hn)
    have hzl : (zeroV (z.take j)).length = j := by unfold zeroV; rw [List.length_map, List.length_take]; omega
    obtain ⟨gs, hgs⟩ := HV.out
    have HGS := Lib.hid hgs
    have hsz := Lib.hid HB.out.size
    clear hA hn HV hgs
    generalize hVS : zeroV (z.take j) = VS at *
    have key : ∃ m : Nat, cellsN n = m ∧ m ≤ 8 ∧ 1 ≤ m ∧ max 1 n = (m : Int) := by
      unfold cellsN
      by_cases h1 : n > 1
      · exact ⟨n.toNat, by rw [if_neg (by omega)], by omega, by omega, by omega⟩
      · by_cases h0 : n = 0
        · exact ⟨1, by rw [if_pos h0], by omega, by omega, by omega⟩
        · exact ⟨1, by rw [if_neg h0]; omega, by omega, by omega, by omega⟩
    obtain ⟨m, hm, hm8, hm1, hmx⟩ := key
    rw [hm] at HT
    have hmk := mk_ints m (by omega) wr
    have HBA : Hid (Bel wr (wr.alloc (.cells (intCells (List.replicate m 0)) 3))) := Lib.hid ((Bel.rfl_ wr).al _)
    have HNW := Lib.hid (Blk.new wr 3 (intCells (List.replicate m 0)))
    have HRW := Lib.hid (HBA.out.own HGS.out.row)
    clear hm hVS
    go_wp2_with (at_builtin; go_loud (refine wpl_app (wr.alloc (.cells (intCells (List.replicate m 0)) 3)) rfl (.tmp 12) (.tmp 16) 24 rfl w.heap.size elII u3 VS.length (heads gs VS) rfl HRW.out [.slice (some ⟨wr.heap.size, 0, none⟩) m m] (by rw [alloc_size]; rfl) rfl (by simp [Value.oneCell']) (by simp only [maxLen]; omega) (by omega) (Nat.le_trans hsz.out HBA.out.size) ?_); intro g2 cap w4 hown4 hg4 _; have HO4 := Lib.hid hown4; have HG4 := Lib.hid hg4; clear hown4 hg4)
    go_roundw
    case rel =>
      refine ⟨j + 1, by go_num, by omega, ?_, ?_⟩
      · rw [HT.out]
        have ho := HBA.out.own HGS.out.row
        have hl2 : (List.replicate m (0 : Int)).length = m := List.length_replicate
        refine Lib.hid ⟨gs ++ [wr.heap.size], HGS.out.push (w2 := w4) (Nat.le_refl _) hsz.out (by rw [hl2]; simp only [maxLen]; omega) ?_ (by rw [hl2]; have := HO4.out; rw [hzl] at this ⊢; exact this) ?_⟩
        · exact HNW.out.grown HG4.out (Blk.ne_own HNW.out ho (by decide))
        · intro k t cs ht hb
          exact (hb.keep HBA.out).grown HG4.out (Blk.ne_own (hb.keep HBA.out) ho (fun e => ht e.symm))
      · have ho := HBA.out.own HGS.out.row
        exact Lib.hid (Below.grown (HB.out.tr HBA.out) HG4.out (Nat.le_trans hsz.out HBA.out.size) (fun k hk => (ho.lt k hk).1))
    case measure => simp [intOf]; omega
theorem evC_snoc (out : List Ev) (e : Ev) : evC (out ++ [e]) = evC out ++ e.cells := by unfold evC; simp
/-- what a run told so far has one more event -/
theorem RnM.told {w0 : World} {ps : List PF} {fuel : Int} {fs : FS} {L r : Nat} {w W W2 : World} {inp : List Int} {steps made deep : Int} {out : List Ev} {vp vin vf ve ve' : Value}
    (hb0 : Below w0.heap.size w0 w) (hr0 : w0.heap.size ≤ r) (hrL : r < L) (hB : Blk w r 171 #[vp, vin, .int .i64 fuel, .int .i64 steps, .int .i64 made, .int .i64 deep, vf, ve]) (hps : Sl pfR w0 vp ps) (hin : Sl intR w0 vin inp)
    (hfs : w.ownsRow w0.heap.size INT 1 vf fs.l.length (fs.l.map (Value.int .i64))) (hvf : (∀ k, vf.ownBlock = some k → k < L) ∧ vf = fs.v) (hev : w.ownsRow w0.heap.size EVT 6 ve out.length (evC out)) (hW : Bel w W) (hg : W.grownBy W2 ve.ownBlock) (e : Ev)
    (ho : W2.ownsRow w0.heap.size EVT 6 ve' (out.length + 1) (evC out ++ e.cells)) :
    RnM w0 ps fuel fs L r (W2.setCell ⟨r, 7, none⟩ ve') inp steps made deep (out ++ [e]) ∧ Kept rts w0.heap.size w.heap.size w (W2.setCell ⟨r, 7, none⟩ ve') := by
  have hBW := hB.keep hW
  have hevW := hW.own hev
  have hB2 := hBW.grown hg (Blk.ne_own hBW hevW (by decide))
  have h2 : Below w0.heap.size w0 W2 := Below.grown (Bel.trB hb0 hW hb0.size) hg (Nat.le_trans hb0.size hW.size) (fun k hk => (hevW.lt k hk).1)
  have hfs2 := own_far (hW.own hfs) hevW (by decide) hg
  refine ⟨⟨h2.setCell (p := ⟨r, 7, none⟩) hr0 _, hr0, hrL, vp, vin, vf, ve', hB2.set_ 7 _, hps, hin, own_set hfs2 hB2 (by decide) 7 _, hvf, ?_⟩, ?_⟩
  · rw [List.length_append, evC_snoc]
    exact own_set ho hB2 (by decide) 7 _
  · exact ((Kept.bel hW hb0.size).tr (Kept.mono (Kept.grown hevW (by decide) hg (Nat.le_trans hb0.size hW.size)) (Nat.le_refl _))).tr (Kept.set_ty hB2 hr0 (by decide) 7 _)
set_option maxRecDepth 20000 in
set_option maxHeartbeats 4000000 in
theorem tell_any (w0 : World) (ps : List PF) (fuel : Int) (fs : FS) (L r : Nat) (inp : List Int) (steps made deep : Int) (out : List Ev) (k f a v i n : Int) (w : World) (hR : RnM w0 ps fuel fs L r w inp steps made deep out) (hl : out.length ≤ 100000) :
    Calls Try.prog 148 #[.pointer (some ⟨r, 0, none⟩), .agg #[.int .i64 k, .int .i64 f, .int .i64 a, .int .i64 v, .int .i64 i, .int .i64 n]] w fun x w' => x = .returned (.tuple #[]) ∧ RnM w0 ps fuel fs L r w' inp steps made deep (out ++ [⟨k, f, a, v, i, n⟩]) ∧ Kept rts w0.heap.size w.heap.size w w' := by
  obtain ⟨hb0, hr0, hrL, vp, vin, vf, ve, hB, hps, hin, hfs, hvf, hev⟩ := hR
  have HT := Lib.hid (fun (W W2 : World) (ve' : Value) => @RnM.told w0 ps fuel fs L r w W W2 inp steps made deep out vp vin vf ve ve' hb0 hr0 hrL hB hps hin hfs hvf hev)
  have hb1 : Bel w (w.alloc (.cells #[.int .i64 k, .int .i64 f, .int .i64 a, .int .i64 v, .int .i64 i, .int .i64 n] EVT)) := (Bel.rfl_ w).al _
  have HB1 := Lib.hid (hB.keep hb1)
  have HO1 := Lib.hid (hb1.own hev)
  have HQ1 := Lib.hid (Blk.new w EVT #[.int .i64 k, .int .i64 f, .int .i64 a, .int .i64 v, .int .i64 i, .int .i64 n])
  have HBB := Lib.hid hb1
  have HS := Lib.hid (Nat.le_trans hb0.size hb1.size)
  have HT1 : Hid (∀ u ∈ [Value.int .i64 k, .int .i64 f, .int .i64 a, .int .i64 v, .int .i64 i, .int .i64 n], u.oneCell' = true) := Lib.hid (fun u hu => by simp at hu; rcases hu with rfl | rfl | rfl | rfl | rfl | rfl <;> rfl)
  have HT3 : Hid (out.length + 1 ≤ maxLen) := Lib.hid (by simp only [maxLen]; omega)
  have HT4 : Hid ((out.length + 1) * 48 ≤ 140737488355328) := Lib.hid (by omega)
  clear hb0 hr0 hrL hB hps hin hfs hvf hev hb1 hl
  go_enter Try.func148, Try.ntmps148
  go_upto_region 1 with fail
  generalize w.alloc (.cells #[.int .i64 k, .int .i64 f, .int .i64 a, .int .i64 v, .int .i64 i, .int .i64 n] EVT) = W1 at *
  have r7 := HB1.out.cell (i := 7) (v := ve) rfl
  have q0 := HQ1.out.cell (i := 0) (v := .int .i64 k) rfl
  have q1 := HQ1.out.cell (i := 1) (v := .int .i64 f) rfl
  have q2 := HQ1.out.cell (i := 2) (v := .int .i64 a) rfl
  have q3 := HQ1.out.cell (i := 3) (v := .int .i64 v) rfl
  have q4 := HQ1.out.cell (i := 4) (v := .int .i64 i) rfl
  have q5 := HQ1.out.cell (i := 5) (v := .int .i64 n) rfl
  have r7' := (HB1.out.keep ((Bel.rfl_ W1).al (.cells #[.int .i64 k, .int .i64 f, .int .i64 a, .int .i64 v, .int .i64 i, .int .i64 n] EVT))).cell (i := 7) (v := ve) rfl
  have HB1d := Lib.hid (HB1.out.keep ((Bel.rfl_ W1).dr))
  have HO1d := Lib.hid (((Bel.rfl_ W1).dr).own HO1.out)
  generalize hQ : w.heap.size = Q at *
  have HQE := Lib.hid hQ
  clear hQ
  go_region_law (first
    | (refine @step_app _ W1.drew _ _ _ _ _ _ ?_ (.tmp 8) (.tmp 10) 27 ?_ _ _ _ _ elEV ve out.length _ ?_ HO1d.out [.int .i64 k, .int .i64 f, .int .i64 a, .int .i64 v, .int .i64 i, .int .i64 n] _ rfl ?_ ?_ HT1.out HT3.out HT4.out HS.out ?_ _ ?_; exact rfl; exact rfl; exact rfl; exact rfl; exact rfl; rotate_left; exact rfl; intro gg cap w4 hown4 hg4 _; have HO4 := Lib.hid hown4; have HG4 := Lib.hid hg4; have hs4 := HB1d.out.grown hg4 (HB1d.out.ne_own HO1d.out (by decide)); have x2 := hs4.cell (i := 7) (v := ve) rfl; have xf := hs4.frozen 7; clear hs4 hown4 hg4))
  all_goals go_wp2
  all_goals
    have hx := HT.out W1.drew w4 (.slice (some ⟨gg, 0, none⟩) (out.length + 1) cap) HBB.out.dr HG4.out ⟨k, f, a, v, i, n⟩ HO4.out
    exact bodyPost_end (v := .tuple #[]) (results_none rfl _ _ _) rfl ⟨rfl, hx.1, HQE.out ▸ hx.2⟩
section
variable {w : World} {base size n : Nat} {e : TypeId} {xs : List Value}
/-- .. as it lies elsewhere -/
theorem own_by {w' : World} {v : Value} (ho : w.ownsRow base e size v n xs) (hk : ∀ k cs, v.ownBlock = some k → Blk w k e cs → Blk w' k e cs) : w'.ownsRow base e size v n xs :=
  ⟨ho.1, by
    rcases ho.2 with h | ⟨g, cap, cur, rfl, h1, h2, h3⟩
    · exact .inl h
    · exact .inr ⟨g, cap, cur, rfl, h1, hk _ _ rfl h2, h3⟩⟩
end
/-- where a frame's rows lie -/
structure FrX where
  vv : Value
  vt : Value
  gs : List Nat
  tb : Nat
/-- tasks in a row of the call's own, the next one last -/
structure TasksT (w0 w : World) (v : Value) (ts : List Tk) (tb : Nat) : Prop where
  row : ∃ cells, w.ownsRow w0.heap.size TKT 15 v ts.length cells ∧ ∀ (i : Nat) t, ts.reverse[i]? = some t → TkR w0 t ((cells.drop (i * 15)).take 15)
  blk : v.ownBlock = some tb
def cellsF (f : Fr) (x : FrX) : List Value := [.int .i64 f.num, .int .i64 f.fn, .int .i64 f.at_, x.vv, x.vt]
/-- frames in a row, the topmost one last -/
def frC : List Fr → List FrX → List Value
  | f :: fs, x :: xs => frC fs xs ++ cellsF f x
  | _, _ => []
theorem frC_len : ∀ {fs : List Fr} {xs : List FrX}, xs.length = fs.length → (frC fs xs).length = fs.length * 5
  | [], [], _ => rfl
  | f :: fs, x :: xs, h => by
    rw [frC, List.length_append, frC_len (by simpa using h), List.length_cons]
    simp only [cellsF, List.length_cons, List.length_nil]
    omega
  | [], _ :: _, h => by simp at h
  | _ :: _, [], h => by simp at h
/-- a frame's own rows -/
structure FrD (w0 w : World) (f : Fr) (x : FrX) : Prop where
  vars : VarsG w w0.heap.size x.vv f.vars x.gs
  tasks : TasksT w0 w x.vt f.tasks x.tb
structure FrmsM (w0 w : World) (vfr : Value) (fs : List Fr) (xs : List FrX) : Prop where
  row : w.ownsRow w0.heap.size FRT 5 vfr fs.length (frC fs xs)
  len : xs.length = fs.length
  at_ : ∀ (i : Nat) f x, fs[i]? = some f → xs[i]? = some x → FrD w0 w f x
  nd : (xs.flatMap FrX.gs).Nodup
  td : (xs.map FrX.tb).Nodup
/-- the document's machine -/
structure MacD (w0 : World) (ps : List PF) (fuel : Int) (inp : List Int) (q : Nat) (w : World) (m : Mc) (vp vin vfr vout : Value) (taken : Nat) (xs : List FrX) : Prop where
  low : Below w0.heap.size w0 w
  lo : w0.heap.size ≤ q
  blk : Blk w q MCT #[vp, vin, .int .i64 taken, .int .i64 fuel, .int .i64 m.steps, .int .i64 m.made, vfr, vout, .bool m.over]
  prog : Sl pfR w0 vp ps
  ins : Sl intR w0 vin inp
  inp : m.inp = inp.drop taken
  tk : (taken : Int) ≤ m.steps
  out : w.ownsRow w0.heap.size EVT 6 vout m.out.length (evC m.out)
  frs : FrmsM w0 w vfr m.frames xs
def DocM (w0 : World) (ps : List PF) (fuel : Int) (inp : List Int) (q : Nat) (w : World) (m : Mc) : Prop := ∃ vp vin vfr vout taken xs, MacD w0 ps fuel inp q w m vp vin vfr vout taken xs
section
variable {w0 w w' : World} {v : Value} {ts : List Tk} {tb : Nat} {f : Fr} {x : FrX} {fs : List Fr} {xs : List FrX} {vfr : Value}
theorem TasksT.by_ (h : TasksT w0 w v ts tb) (hk : ∀ cs, Blk w tb TKT cs → Blk w' tb TKT cs) : TasksT w0 w' v ts tb := by
  obtain ⟨⟨cells, h1, h2⟩, h3⟩ := h
  refine ⟨⟨cells, own_by h1 fun k cs hb hB => ?_, h2⟩, h3⟩
  rw [h3] at hb
  obtain rfl := Option.some.inj hb
  exact hk cs hB
theorem FrD.by_ (h : FrD w0 w f x) (hk : ∀ k t cs, (t = INTS ∨ t = INT ∨ t = TKT) → Blk w k t cs → Blk w' k t cs) : FrD w0 w' f x :=
  ⟨h.vars.to (own_by h.vars.row fun _k _cs _ hB => hk _ _ _ (.inl rfl) hB) fun _g _l hB => hk _ _ _ (.inr (.inl rfl)) hB, h.tasks.by_ fun _cs hB => hk _ _ _ (.inr (.inr rfl)) hB⟩
theorem FrmsM.by_ (h : FrmsM w0 w vfr fs xs) (hk : ∀ k t cs, (t = FRT ∨ t = INTS ∨ t = INT ∨ t = TKT) → Blk w k t cs → Blk w' k t cs) : FrmsM w0 w' vfr fs xs :=
  ⟨own_by h.row fun _k _cs _ hB => hk _ _ _ (.inl rfl) hB, h.len, fun i f x hf hx => (h.at_ i f x hf hx).by_ fun _k _t _cs ht hB => hk _ _ _ (.inr ht) hB, h.nd, h.td⟩
theorem FrmsM.keep (h : FrmsM w0 w vfr fs xs) (hb : Bel w w') : FrmsM w0 w' vfr fs xs := h.by_ fun _ _ _ _ hB => hB.keep hb
end
section
variable {w0 w w' : World} {ps : List PF} {fuel : Int} {inp : List Int} {q : Nat} {m : Mc} {vp vin vfr vout : Value} {taken : Nat} {xs : List FrX}
theorem MacD.keep (h : MacD w0 ps fuel inp q w m vp vin vfr vout taken xs) (hb : Bel w w') : MacD w0 ps fuel inp q w' m vp vin vfr vout taken xs :=
  ⟨Bel.trB h.low hb h.low.size, h.lo, h.blk.keep hb, h.prog, h.ins, h.inp, h.tk, hb.own h.out, h.frs.keep hb⟩
/-- a cell of the machine's own is written -/
theorem MacD.set_q (h : MacD w0 ps fuel inp q w m vp vin vfr vout taken xs) (i : Nat) (u : Value) : Below w0.heap.size w0 (w.setCell ⟨q, i, none⟩ u) ∧ (w.setCell ⟨q, i, none⟩ u).ownsRow w0.heap.size EVT 6 vout m.out.length (evC m.out) ∧ FrmsM w0 (w.setCell ⟨q, i, none⟩ u) vfr m.frames xs ∧
    Blk (w.setCell ⟨q, i, none⟩ u) q MCT (#[vp, vin, .int .i64 taken, .int .i64 fuel, .int .i64 m.steps, .int .i64 m.made, vfr, vout, .bool m.over].setIfInBounds i u) :=
  ⟨h.low.setCell (p := ⟨q, i, none⟩) h.lo _, own_set h.out h.blk (by decide) i u, h.frs.by_ fun k t cs ht hB => hB.aside h.blk (by rcases ht with rfl | rfl | rfl | rfl <;> decide) i u, h.blk.set_ i u⟩
/-- an event is told -/
theorem MacD.told (h : MacD w0 ps fuel inp q w m vp vin vfr vout taken xs) {W W2 : World} (hW : Bel w W) {vout' : Value} (hg : W.grownBy W2 vout.ownBlock) (e : Ev) (ho : W2.ownsRow w0.heap.size EVT 6 vout' (m.out.length + 1) (evC m.out ++ e.cells)) :
    MacD w0 ps fuel inp q (W2.setCell ⟨q, 7, none⟩ vout') { m with out := m.out ++ [e] } vp vin vfr vout' taken xs := by
  have h2 := h.keep hW
  have hb2 := h2.blk.grown hg (Blk.ne_own h2.blk h2.out (by decide))
  have hl : Below w0.heap.size w0 W2 := Below.grown h2.low hg h2.low.size (fun k hk => (h2.out.lt k hk).1)
  have hf : FrmsM w0 W2 vfr m.frames xs := h2.frs.by_ fun k t cs ht hB => hB.grown hg (Blk.ne_own hB h2.out (by rcases ht with rfl | rfl | rfl | rfl <;> decide))
  refine ⟨hl.setCell (p := ⟨q, 7, none⟩) h.lo _, h.lo, hb2.set_ 7 _, h.prog, h.ins, h.inp, h.tk, ?_, hf.by_ fun k t cs ht hB => hB.aside hb2 (by rcases ht with rfl | rfl | rfl | rfl <;> decide) 7 _⟩
  show (W2.setCell ⟨q, 7, none⟩ vout').ownsRow w0.heap.size EVT 6 vout' (m.out ++ [e]).length (evC (m.out ++ [e]))
  rw [List.length_append, evC_snoc]
  exact own_set ho hb2 (by decide) 7 _
/-- what stays where an event is told -/
theorem MacD.told_kept (h : MacD w0 ps fuel inp q w m vp vin vfr vout taken xs) {W W2 : World} (hW : Bel w W) {vout' : Value} (hg : W.grownBy W2 vout.ownBlock) : Kept [EVT, MCT] w0.heap.size w.heap.size w (W2.setCell ⟨q, 7, none⟩ vout') := by
  have h2 := h.keep hW
  have hb2 := h2.blk.grown hg (Blk.ne_own h2.blk h2.out (by decide))
  exact ((Kept.bel hW h.low.size).tr (Kept.mono (Kept.grown h2.out (by simp) hg h2.low.size) hW.size)).tr (Kept.set_ty hb2 h.lo (by simp) 7 _)
end
end Go.Proofs.Ytgkpplbomciehaa
