/- Right, and the value of an expression: walked. The small program and its trace: walked. Each lemma states its own conditions. -/
import Derived.Test.YtgkpplbomciehaaTrr45
import Derived.OwnWalk
namespace Go.Proofs.Ytgkpplbomciehaa
open Go.RowKit
/-- what is wrong with what Right is told -/
def rightE (ps : List PF) (l : List Ev) : Int := if errP ps ≠ 0 then errP ps else if l.length > 4000 then 2 else 0
def RightIs (ps : List PF) (l : List Ev) (w : World) (r : Ending) (w' : World) : Prop :=
  Bel w w' ∧ ((rightE ps l ≠ 0 ∧ r = .returned (.tuple #[.bool false, .int .i64 (rightE ps l)])) ∨ (rightE ps l = 0 ∧ ∃ b, r = .returned (.tuple #[.bool b, .int .i64 0]) ∧ (b = true ↔ RightP ps l)))
set_option maxRecDepth 20000 in
set_option maxHeartbeats 4000000 in
theorem right_any (ps : List PF) (l : List Ev) (vp vl : Value) (w : World) (h : Sl pfR w vp ps) (hl : Sl evR w vl l) : Calls Try.prog 31 #[.agg #[vp], vl] w (RightIs ps l w) := by
  have HSL := Lib.hid h
  have HEV := Lib.hid hl
  obtain ⟨A, c, rfl, -⟩ := sl_lit h
  obtain ⟨Ae, ce, rfl, hll⟩ := sl_lit hl
  have HB1 : Hid (Bel w (w.alloc (.cells #[.slice A ps.length c] PGT))) := Lib.hid ((Bel.rfl_ w).al _)
  have HP1 := Lib.hid (Blk.new w PGT #[.slice A ps.length c])
  have c0 := HP1.out.cell (i := 0) rfl
  have HCK := Lib.hid (fun W (hb : Bel w W) => check_any ps _ W (HSL.out.keep hb))
  have HIS := Lib.hid (fun W (hb : Bel w W) (h1 : errP ps = 0) (h2 : l.length ≤ 4000) => is_any ps (errP_ok h1) l _ _ W (HSL.out.keep hb) (HEV.out.keep hb) h2)
  have HRE : Hid (rightE ps l = if errP ps ≠ 0 then errP ps else if l.length > 4000 then 2 else 0) := Lib.hid rfl
  unfold RightIs
  clear h hl
  generalize rightE ps l = RE at *
  generalize errP ps = PE at *
  go_enter Try.func31, Try.ntmps31
  go_wp2_with fail
  generalize hW1 : w.alloc (.cells #[.slice A ps.length c] PGT) = W1 at *
  clear hW1
  generalize hQ : w.heap.size = Q at *
  clear hQ
  refine (HCK.out _ HB1.out).mono ?_
  rintro r w2 ⟨rfl, hb2⟩
  have HB2 := Lib.hid (HB1.out.tr hb2)
  have c2 := (HP1.out.keep hb2).cell (i := 0) rfl
  clear hb2 c0
  by_cases h0 : PE = 0
  · subst h0
    have HR : Hid (RE = if l.length > 4000 then 2 else 0) := Lib.hid (by rw [HRE.out, if_neg (by decide)])
    by_cases h4 : l.length > 4000
    · have d4 : decide ((l.length : Int) > 4000) = true := decide_eq_true (by omega)
      have HR2 : Hid (RE = 2) := Lib.hid (by rw [HR.out, if_pos h4])
      clear c2 h4
      go_wp2
      go_ret2
      exact ⟨HB2.out, Or.inl ⟨by rw [HR2.out]; decide, by rw [HR2.out]; rfl⟩⟩
    have d4 : decide ((l.length : Int) > 4000) = false := decide_eq_false (by omega)
    have HR2 : Hid (RE = 0) := Lib.hid (by rw [HR.out, if_neg h4])
    have HI := Lib.hid (HIS.out w2 HB2.out (by first | rfl | trivial) (by omega))
    clear h4
    go_wp2_with fail
    refine HI.out.mono ?_
    rintro r w3 ⟨b, rfl, hbq, hb3⟩
    have HBQ := Lib.hid hbq
    have HB3 := Lib.hid (HB2.out.tr hb3)
    clear hbq hb3 c2
    go_wp2
    go_ret2
    exact ⟨HB3.out, Or.inr ⟨HR2.out, b, rfl, HBQ.out⟩⟩
  · have d1 : (PE != 0) = true := by simpa using h0
    have HR : Hid (RE = PE) := Lib.hid (by rw [HRE.out, if_pos h0])
    have HNE := Lib.hid h0
    clear c2 h0
    go_wp2
    go_ret2
    exact ⟨HB2.out, Or.inl ⟨by rw [HR.out]; exact HNE.out, by rw [HR.out]; rfl⟩⟩
/-- the sizes of variables -/
def sizeV (v : List Int) : Int := if v.length = 1 then 0 else max 1 v.length
/-- what is wrong with an expression, and variables -/
def evalE (e : PE) (vs : List (List Int)) : Int := if e.err (vs.map sizeV) ≠ 0 then e.err (vs.map sizeV) else if vs.any (fun l => l.any notNum) = true then 3 else 0
theorem sizeV_pos (v : List Int) : 0 ≤ sizeV v := by unfold sizeV; split <;> omega
theorem sizeV_fits {vs : List (List Int)} (h : vs.any (fun l => l.any notNum) = false) : Fits (vs.map sizeV) vs := by
  refine ⟨by rw [List.length_map], fun i l hl => ⟨fun h0 => ?_, fun n hn => ?_⟩⟩
  · rw [List.getD_eq_getElem?_getD, List.getElem?_map, hl] at h0
    simp only [Option.map_some, Option.getD_some] at h0
    unfold sizeV at h0
    split at h0
    · omega
    · omega
  · rw [List.any_eq_false] at h
    have h1 := h l (List.mem_of_getElem? hl)
    by_cases hh : Num n
    · exact hh
    · exact absurd (List.any_eq_true.2 ⟨n, hn, by unfold notNum; simp [hh]⟩) h1
def EvalIs (e : PE) (vs : List (List Int)) (w : World) (r : Ending) (w' : World) : Prop :=
  Bel w w' ∧ ((evalE e vs ≠ 0 ∧ r = .returned (.tuple #[.int .i64 0, .int .i64 0, .int .i64 (evalE e vs)])) ∨ (evalE e vs = 0 ∧ r = .returned (.tuple #[.int .i64 (e.val vs).1, .int .i64 (e.val vs).2, .int .i64 0])))
set_option maxRecDepth 20000 in
set_option maxHeartbeats 8000000 in
theorem eval_any (e : PE) (vs : List (List Int)) (val vv : Value) (w : World) (h : PEV w e val) (hv : Sl intR.slice w vv vs) (hlen : vs.length * 24 ≤ 140737488351232) : Calls Try.prog 24 #[val, vv] w (EvalIs e vs w) := by
  have HE := Lib.hid h
  have HV := Lib.hid hv
  obtain ⟨A, c, rfl, hll⟩ := sl_lit hv
  obtain ⟨va, rfl, hva⟩ := id h
  have HB1 : Hid (Bel w (w.alloc (.cells #[.int .i64 e.kind, .int .i64 e.n, va] 47))) := Lib.hid ((Bel.rfl_ w).al _)
  have HP1 := Lib.hid (Blk.new w 47 #[.int .i64 e.kind, .int .i64 e.n, va])
  have HO0 : Hid ((w.alloc (.cells #[.int .i64 e.kind, .int .i64 e.n, va] 47)).ownsRow w.heap.size INT 1 (.slice none 0 0) 0 (((vs.take 0).map sizeV).map (Value.int .i64))) := Lib.hid (World.ownsRow_nil _ _ _ _)
  have HEX := Lib.hid (fun W zv (hb : Bel w W) (hz : Sl intR W zv (vs.map sizeV)) => expr_any (vs.map sizeV) (fun n hn => by obtain ⟨v, -, rfl⟩ := List.mem_map.1 hn; exact sizeV_pos v) e _ zv W (HE.out.keep hb) hz)
  have HCO := Lib.hid (fun W (hb : Bel w W) => contains_vv (fun l => l.any notNum) vs _ W (HV.out.keep hb) vv_says)
  have HVL := Lib.hid (fun W (hb : Bel w W) (h1 : e.err (vs.map sizeV) = 0) (h2 : vs.any (fun l => l.any notNum) = false) => val_any (vs.map sizeV) vs (sizeV_fits h2) e (PE.err_ok h1) _ _ W (HE.out.keep hb) (HV.out.keep hb))
  have HEE : Hid (evalE e vs = if e.err (vs.map sizeV) ≠ 0 then e.err (vs.map sizeV) else if vs.any (fun l => l.any notNum) = true then 3 else 0) := Lib.hid rfl
  unfold EvalIs
  clear h hv hva
  generalize evalE e vs = EE at *
  generalize e.err (vs.map sizeV) = ER at *
  generalize vs.any (fun l => l.any notNum) = NX at *
  generalize (e.val vs).1 = xn at *
  generalize (e.val vs).2 = xh at *
  go_enter Try.func24, Try.ntmps24
  go_wp2
  generalize hW1 : w.alloc (.cells #[.int .i64 e.kind, .int .i64 e.n, va] 47) = W1 at *
  clear hW1
  generalize hQ : w.heap.size = Q at *
  have HQ := Lib.hid hQ
  clear hQ
  have HBB := Lib.hid (Bel.rfl_ W1)
  have HQW : Hid (Q ≤ W1.heap.size) := Lib.hid (Nat.le_of_lt HP1.out.lt)
  have HO1 : Hid (W1.ownsRow W1.heap.size INT 1 (.slice none 0 0) 0 (((vs.take 0).map sizeV).map (Value.int .i64))) := Lib.hid (World.ownsRow_nil _ _ _ _)
  clear HO0
  go_loopw [7, 16] (fun v i wr => ∃ j : Nat, i = .int .i64 j ∧ j ≤ vs.length ∧ Hid (wr.ownsRow W1.heap.size INT 1 v j (((vs.take j).map sizeV).map (Value.int .i64))) ∧ Hid (Bel W1 wr)) (fun _ i _ => vs.length - (intOf i).toNat)
  case atStart => exact ⟨0, rfl, Nat.zero_le _, HO1, HBB⟩
  case round =>
    obtain ⟨j, rfl, hj, HO, HB⟩ := hrel
    obtain ⟨WO, hWO⟩ : ∃ W, W = wr := ⟨_, rfl⟩
    subst hWO
    clear HO1 HBB
    by_cases hlt : j < vs.length
    · have hdd : decide ((j : Int) < vs.length) = true := decide_eq_true (by omega)
      obtain ⟨v, hv⟩ : ∃ v, vs[j]? = some v := ⟨_, List.getElem?_eq_getElem hlt⟩
      have HBW := Lib.hid (HB1.out.tr HB.out)
      obtain ⟨b, o, c2, A2, cl, he, hca, hsv⟩ := vars_at (HV.out.keep HBW.out) hv
      injection he with he1 _ he2
      subst he1 he2
      have HTS := Lib.hid (take_snoc hv)
      have hvl : v.length ≤ 9223372036854775807 := by
        obtain ⟨A', c', he, h1, h2, -⟩ := hsv
        have := h2.1
        simp only [maxLen] at this
        omega
      have i0 : (0 : Int) ≤ j := by omega
      have i1 : (j : Int) < vs.length := by omega
      clear hv hsv
      have fin : ∀ (w4 : World) (n : Int) (v4 : Value), n = sizeV v → w4.ownsRow W1.heap.size INT 1 v4 (j + 1) (((vs.take j).map sizeV).map (Value.int .i64) ++ [.int .i64 n]) → w4.ownsRow W1.heap.size INT 1 v4 (j + 1) (((vs.take (j + 1)).map sizeV).map (Value.int .i64)) := fun w4 n v4 hn h => by
        rw [HTS.out, List.map_append, List.map_append]
        subst hn
        exact h
      have FIN := Lib.hid fin
      clear fin
      by_cases h1 : v.length = 1
      · have d1 : ((v.length : Int) != 1) = false := by rw [h1]; rfl
        have HSZ : Hid ((0 : Int) = sizeV v) := Lib.hid (by unfold sizeV; rw [if_pos h1])
        clear h1
        go_wp2_with (at_builtin; go_loud (refine wpl_app WO rfl (.tmp 26) (.tmp 28) 23 rfl W1.heap.size elI u7 j _ rfl HO.out [.int .i64 0] rfl rfl (by simp [Value.oneCell']) (by simp only [maxLen]; omega) (by omega) HB.out.size ?_); intro g2 cap w4 hown4 hg4 _; have HO4 := Lib.hid hown4; have HG4 := Lib.hid hg4; clear hown4 hg4)
        go_roundw
        case rel => exact ⟨j + 1, by go_num, by omega, Lib.hid (FIN.out w4 0 _ HSZ.out HO4.out), Lib.hid (Below.grown HB.out HG4.out HB.out.size (fun k hk => (HO.out.lt k hk).1))⟩
        case measure => simp [intOf]; omega
      · have d1 : ((v.length : Int) != 1) = true := by rw [bne_iff_ne]; omega
        have HSZ : Hid ((max 1 v.length : Int) = sizeV v) := Lib.hid (by unfold sizeV; rw [if_neg h1])
        obtain ⟨m, hm⟩ : ∃ m : Int, m = max 1 (v.length : Int) := ⟨_, rfl⟩
        have hmx : max 1 (v.length : Int) = m := hm.symm
        rw [hmx] at HSZ
        clear h1 hm
        go_wp2_with (at_builtin; go_loud (refine wpl_app WO rfl (.tmp 26) (.tmp 28) 23 rfl W1.heap.size elI u7 j _ rfl HO.out [.int .i64 m] rfl rfl (by simp [Value.oneCell']) (by simp only [maxLen]; omega) (by omega) HB.out.size ?_); intro g2 cap w4 hown4 hg4 _; have HO4 := Lib.hid hown4; have HG4 := Lib.hid hg4; clear hown4 hg4)
        go_roundw
        case rel => exact ⟨j + 1, by go_num, by omega, Lib.hid (FIN.out w4 m _ HSZ.out HO4.out), Lib.hid (Below.grown HB.out HG4.out HB.out.size (fun k hk => (HO.out.lt k hk).1))⟩
        case measure => simp [intOf]; omega
    have hdd : decide ((j : Int) < vs.length) = false := decide_eq_false (by omega)
    have hjl : j = vs.length := by omega
    subst hjl
    have HZ : Hid (Sl intR WO u7 (vs.map sizeV)) := Lib.hid (by have := HO.out; rw [List.take_length] at this; exact Sl.own_int this (by rw [List.length_map]))
    have HBW := Lib.hid (HB1.out.tr HB.out)
    have HP2 := Lib.hid (HP1.out.keep HB.out)
    have c0 := HP2.out.cell (i := 0) (v := .int .i64 e.kind) rfl
    have c1 := HP2.out.cell (i := 1) (v := .int .i64 e.n) rfl
    have c2 := HP2.out.cell (i := 2) (v := va) rfl
    clear HO hj hlt
    go_wp2_with fail
    refine (HEX.out _ _ HBW.out HZ.out).mono ?_
    rintro r w3 ⟨rfl, hb3⟩
    have HB3 := Lib.hid (HBW.out.tr hb3)
    have HP3 := Lib.hid (HP2.out.keep hb3)
    clear hb3 c0 c1 c2
    by_cases h0 : ER = 0
    rotate_left
    · have d1 : (ER != 0) = true := by simpa using h0
      have HR : Hid (EE = ER) := Lib.hid (by rw [HEE.out, if_pos h0])
      have HNE := Lib.hid h0
      clear h0
      go_wp2
      go_ret3
      exact ⟨HB3.out, Or.inl ⟨by rw [HR.out]; exact HNE.out, by rw [HR.out]; rfl⟩⟩
    subst h0
    go_wp2_with fail
    refine (HCO.out _ HB3.out).mono ?_
    rintro r w4 ⟨rfl, hb4⟩
    have HB4 := Lib.hid (HB3.out.tr hb4)
    have HP4 := Lib.hid (HP3.out.keep hb4)
    clear hb4
    cases NX with
    | true =>
      have HR : Hid (EE = 3) := Lib.hid (by rw [HEE.out, if_neg (by decide), if_pos rfl])
      go_wp2
      go_ret3
      exact ⟨HB4.out, Or.inl ⟨by rw [HR.out]; decide, by rw [HR.out]; rfl⟩⟩
    | false =>
      have HR : Hid (EE = 0) := Lib.hid (by rw [HEE.out, if_neg (by decide), if_neg (by decide)])
      have c0 := HP4.out.cell (i := 0) (v := .int .i64 e.kind) rfl
      have c1 := HP4.out.cell (i := 1) (v := .int .i64 e.n) rfl
      have c2 := HP4.out.cell (i := 2) (v := va) rfl
      go_wp2_with fail
      refine (HVL.out _ HB4.out (by first | rfl | trivial) (by first | rfl | trivial)).mono ?_
      rintro r w5 ⟨rfl, hb5⟩
      have HB5 := Lib.hid (HB4.out.tr hb5)
      clear hb5 c0 c1 c2
      go_wp2
      go_ret3
      exact ⟨HB5.out, Or.inr ⟨HR.out, rfl⟩⟩
/-- a whole block read as a slice -/
theorem Sl.row {α : Type} {r : Rep α} {w : World} {g : Nat} {t : TypeId} {cs : Array Value} (h : Blk w g t cs) (xs : List α) (hs : cs.size = xs.length * r.size) (hm : xs.length ≤ maxLen)
    (hR : ∀ k x, xs[k]? = some x → r.R w ((cs.toList.drop (k * r.size)).take r.size) x) : Sl r w (.slice (some ⟨g, 0, none⟩) xs.length xs.length) xs := by
  refine Sl.own (base := 0) (e := t) (cells := cs.toList) ⟨by rw [Array.length_toList]; exact hs, .inr ⟨g, xs.length, cs, rfl, Nat.zero_le _, h, Nat.le_refl _, hm, hs, ?_⟩⟩ rfl hR
  rw [List.take_of_length_le]
  rw [Array.length_toList]
  exact Nat.le_of_eq hs
def noE : PE := .mk 0 0 []
def smallPs : List PF := [⟨0, [0], [.mk 4 0 0 noE noE [] [] [], .mk 5 0 0 noE (.mk 2 0 []) [] [] []], noE⟩]
theorem small_sl {W : World} {b1 b2 b3 : Nat} (h1 : Blk W b1 INT #[.int .i64 0]) (h2 : Blk W b2 CMT #[.int .i64 4, .int .i64 0, .int .i64 0, .int .i64 0, .int .i64 0, .slice none 0 0, .int .i64 0, .int .i64 0, .slice none 0 0, .slice none 0 0, .slice none 0 0, .slice none 0 0, .int .i64 5, .int .i64 0, .int .i64 0, .int .i64 0, .int .i64 0, .slice none 0 0, .int .i64 2, .int .i64 0, .slice none 0 0, .slice none 0 0, .slice none 0 0, .slice none 0 0])
    (h3 : Blk W b3 FNT #[.int .i64 0, .slice (some ⟨b1, 0, none⟩) 1 1, .slice (some ⟨b2, 0, none⟩) 2 2, .int .i64 0, .int .i64 0, .slice none 0 0]) : Sl pfR W (.slice (some ⟨b3, 0, none⟩) 1 1) smallPs := by
  have n1 : Sl peR W (.slice none 0 0) [] := Sl.nil_ _ _
  have n2 : Sl pcR W (.slice none 0 0) [] := Sl.nil_ _ _
  refine Sl.row h3 smallPs rfl (by decide) fun k x hx => ?_
  have hk : k = 0 := by have := (List.getElem?_eq_some_iff.1 hx).1; simp [smallPs] at this; exact this
  subst hk
  obtain rfl := Option.some.inj hx
  refine ⟨.slice (some ⟨b1, 0, none⟩) 1 1, .slice (some ⟨b2, 0, none⟩) 2 2, .slice none 0 0, rfl, ?_, ?_, n1⟩
  · exact Sl.row (r := intR) h1 [0] rfl (by decide) fun k x hx => by
      have hk : k = 0 := by have := (List.getElem?_eq_some_iff.1 hx).1; simp at this; exact this
      subst hk
      obtain rfl := Option.some.inj hx
      rfl
  · refine Sl.row (r := pcR) h2 [.mk 4 0 0 noE noE [] [] [], .mk 5 0 0 noE (.mk 2 0 []) [] [] []] rfl (by decide) fun k x hx => ?_
    have hk : k = 0 ∨ k = 1 := by have := (List.getElem?_eq_some_iff.1 hx).1; simp at this; omega
    rcases hk with rfl | rfl
    · obtain rfl := Option.some.inj hx
      exact PCR.shut (i := noE) (e := noE) n1 n1 n1 n2 n2
    · obtain rfl := Option.some.inj hx
      exact PCR.shut (i := noE) (e := .mk 2 0 []) n1 n1 n1 n2 n2
set_option maxRecDepth 20000 in
set_option maxHeartbeats 4000000 in
theorem small_any (w : World) : Calls Try.prog 58 #[] w fun r w' => ∃ v, r = .returned (.agg #[v]) ∧ Sl pfR w' v smallPs ∧ Bel w w' := by
  go_enter Try.func58, Try.ntmps58
  go_wp2
  generalize hW0 : w.alloc (.cells #[.slice (some ⟨w.heap.size + 1 + 1 + 1, 0, none⟩) 1 1] PGT) = W0 at *
  have k0 : Blk W0 w.heap.size PGT #[.slice (some ⟨w.heap.size + 1 + 1 + 1, 0, none⟩) 1 1] := by rw [← hW0]; exact Blk.new _ _ _
  have s0 : W0.heap.size = w.heap.size + 1 := by rw [← hW0]; exact alloc_size _ _
  have b0 : Bel w W0 := by rw [← hW0]; exact (Bel.rfl_ w).al _
  generalize hW1 : W0.alloc (.cells #[.int .i64 0] INT) = W1 at *
  have k1 : Blk W1 (w.heap.size + 1) INT #[.int .i64 0] := by rw [← hW1, ← s0]; exact Blk.new _ _ _
  have s1 : W1.heap.size = w.heap.size + 1 + 1 := by rw [← hW1, alloc_size, s0]
  have b1 : Bel W0 W1 := by rw [← hW1]; exact (Bel.rfl_ W0).al _
  generalize hW2 : W1.alloc (.cells #[.int .i64 4, .int .i64 0, .int .i64 0, .int .i64 0, .int .i64 0, .slice none 0 0, .int .i64 0, .int .i64 0, .slice none 0 0, .slice none 0 0, .slice none 0 0, .slice none 0 0, .int .i64 5, .int .i64 0, .int .i64 0, .int .i64 0, .int .i64 0, .slice none 0 0, .int .i64 2, .int .i64 0, .slice none 0 0, .slice none 0 0, .slice none 0 0, .slice none 0 0] CMT) = W2 at *
  have k2 : Blk W2 (w.heap.size + 1 + 1) CMT #[.int .i64 4, .int .i64 0, .int .i64 0, .int .i64 0, .int .i64 0, .slice none 0 0, .int .i64 0, .int .i64 0, .slice none 0 0, .slice none 0 0, .slice none 0 0, .slice none 0 0, .int .i64 5, .int .i64 0, .int .i64 0, .int .i64 0, .int .i64 0, .slice none 0 0, .int .i64 2, .int .i64 0, .slice none 0 0, .slice none 0 0, .slice none 0 0, .slice none 0 0] := by rw [← hW2, ← s1]; exact Blk.new _ _ _
  have s2 : W2.heap.size = w.heap.size + 1 + 1 + 1 := by rw [← hW2, alloc_size, s1]
  have b2 : Bel W1 W2 := by rw [← hW2]; exact (Bel.rfl_ W1).al _
  generalize hW3 : W2.alloc (.cells #[.int .i64 0, .slice (some ⟨w.heap.size + 1, 0, none⟩) 1 1, .slice (some ⟨w.heap.size + 1 + 1, 0, none⟩) 2 2, .int .i64 0, .int .i64 0, .slice none 0 0] FNT) = W3 at *
  have k3 : Blk W3 (w.heap.size + 1 + 1 + 1) FNT #[.int .i64 0, .slice (some ⟨w.heap.size + 1, 0, none⟩) 1 1, .slice (some ⟨w.heap.size + 1 + 1, 0, none⟩) 2 2, .int .i64 0, .int .i64 0, .slice none 0 0] := by rw [← hW3, ← s2]; exact Blk.new _ _ _
  have b3 : Bel W2 W3 := by rw [← hW3]; exact (Bel.rfl_ W2).al _
  have hsl := small_sl (k1.keep (b2.tr b3)) (k2.keep b3) k3
  have k0' := k0.keep (b1.tr (b2.tr b3))
  have hbel := b0.tr (b1.tr (b2.tr b3))
  generalize w.heap.size = Q at *
  exact bodyPost_ret (v := .agg #[.slice (some ⟨Q + 1 + 1 + 1, 0, none⟩) 1 1]) (by have c0 := k0'.cell (i := 0) rfl; simp [results, c0, go_sem]) rfl ⟨_, rfl, hsl, hbel⟩
def smallT : List Ev := [⟨1, 0, 0, 0, 0, 0⟩, ⟨3, 0, 0, 0, 0, 7⟩, ⟨2, 0, 0, 0, 0, 7⟩, ⟨1, 0, 1, 0, 0, 0⟩, ⟨4, 0, 1, 0, 0, 7⟩, ⟨7, 0, -1, 0, 0, 0⟩]
theorem smallTrace_any (w : World) : Calls Try.prog 72 #[] w fun r w' => ∃ u, r = .returned u ∧ w'.ownsRow w.heap.size EVT 6 u smallT.length (evC smallT) ∧ Bel w w' := by
  go_enter Try.func72, Try.ntmps72
  go_wp2
  go_ret
  refine ⟨_, rfl, ⟨rfl, .inr ⟨_, 6, _, rfl, Nat.le_refl _, Blk.new w EVT _, Nat.le_refl _, by decide, rfl, rfl⟩⟩, (Bel.rfl_ w).al _⟩
end Go.Proofs.Ytgkpplbomciehaa
