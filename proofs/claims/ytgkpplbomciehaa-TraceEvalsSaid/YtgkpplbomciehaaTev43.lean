/- What comes in, and values of expressions, by the document: walked. Each lemma states its own conditions. -/
import Derived.Test.YtgkpplbomciehaaTev36
import Derived.Test.YtgkpplbomciehaaTev42
namespace Go.Proofs.Ytgkpplbomciehaa
open Go.RowKit
theorem any_take {α : Type} {p : α → Bool} {l : List α} {j : Nat} {x : α} (h : l[j]? = some x) : (l.take (j + 1)).any p = ((l.take j).any p || p x) := by
  rw [take_snoc h, List.any_append]
  simp
theorem any_pre {α : Type} {p : α → Bool} {l : List α} {j : Nat} (h : (l.take j).any p = true) : l.any p = true := by
  rw [List.any_eq_true] at h ⊢
  obtain ⟨x, hx, h⟩ := h
  exact ⟨x, List.mem_of_mem_take hx, h⟩
/-- sizes that are 0 alike, and not 0 alike -/
def LikeZ (z y : List Int) : Prop := z.length = y.length ∧ ∀ i : Nat, (0 < z.getD i 0 ↔ 0 < y.getD i 0) ∧ (z.getD i 0 = 0 ↔ y.getD i 0 = 0)
theorem partP_like {z y : List Int} (h : LikeZ z y) (e : PE) : partP z e = partP y e := by
  obtain ⟨h1, h2⟩ := h
  obtain ⟨h3, h4⟩ := h2 e.n.toNat
  unfold partP
  rw [h1]
  have h5 : (e.kind = 2 ∧ 0 < z.getD e.n.toNat 0 ∨ e.kind = 3 ∧ z.getD e.n.toNat 0 = 0) ↔ (e.kind = 2 ∧ 0 < y.getD e.n.toNat 0 ∨ e.kind = 3 ∧ y.getD e.n.toNat 0 = 0) := by rw [h3, h4]
  simp only [h5]
theorem parts_like {z y : List Int} (h : LikeZ z y) : ∀ e : PE, e.parts z = e.parts y :=
  PE.ind fun k n args ih => by
    rw [PE.parts, PE.parts, partP_like h]
    congr 1
    induction args with
    | nil => rfl
    | cons x xs ihx => rw [partsP, partsP, ih x (by simp), ihx fun y hy => ih y (by simp [hy])]
theorem err_like {z y : List Int} (h : LikeZ z y) (e : PE) : e.err z = e.err y := by unfold PE.err; rw [parts_like h]
/-- the sizes of variables, by the document -/
def sizeW (v : List Int) : Int := if v.length = 1 then 0 else v.length + 1
theorem like_sizes (vs : List (List Int)) : LikeZ (vs.map sizeW) (vs.map sizeV) := by
  refine ⟨by simp, fun i => ?_⟩
  rw [List.getD_eq_getElem?_getD, List.getD_eq_getElem?_getD, List.getElem?_map, List.getElem?_map]
  cases vs[i]? with
  | none => simp
  | some v =>
    simp only [Option.map_some, Option.getD_some]
    unfold sizeW sizeV
    split <;> omega
set_option maxRecDepth 20000 in
set_option maxHeartbeats 4000000 in
theorem checkEval_any (e : PE) (vs : List (List Int)) (val vv : Value) (w : World) (h : PEV w e val) (hv : Sl intR.slice w vv vs) (hlen : vs.length * 24 ≤ 140737488351232) (hin : ∀ v ∈ vs, v.length * 8 ≤ 140737488351232) : Calls Try.prog 25 #[val, vv] w fun r w' => r = .returned (.int .i64 (evalE e vs)) ∧ Bel w w' := by
  have HE := Lib.hid h
  have HV := Lib.hid hv
  obtain ⟨A, c, rfl, hll⟩ := sl_lit hv
  obtain ⟨va, rfl, hva⟩ := id h
  have HB1 : Hid (Bel w (w.alloc (.cells #[.int .i64 e.kind, .int .i64 e.n, va] 47))) := Lib.hid ((Bel.rfl_ w).al _)
  have HP1 := Lib.hid (Blk.new w 47 #[.int .i64 e.kind, .int .i64 e.n, va])
  have HEX := Lib.hid (fun W zv (hb : Bel w W) (hz : Sl intR W zv (vs.map sizeW)) => checkExpr_any (vs.map sizeW) e _ zv W (HE.out.keep hb) hz)
  have HEE : Hid (evalE e vs = if e.err (vs.map sizeV) ≠ 0 then e.err (vs.map sizeV) else if vs.any (fun l => l.any notNum) = true then 3 else 0) := Lib.hid rfl
  have HLK := Lib.hid (err_like (like_sizes vs) e)
  rw [← HLK.out] at HEE
  have HIN := Lib.hid hin
  clear h hv hva HLK hin
  generalize evalE e vs = EE at *
  generalize e.err (vs.map sizeW) = ER at *
  go_enter Try.func25, Try.ntmps25
  go_wp2
  generalize hW1 : w.alloc (.cells #[.int .i64 e.kind, .int .i64 e.n, va] 47) = W1 at *
  clear hW1
  generalize hQ : w.heap.size = Q at *
  clear hQ
  have HBB := Lib.hid (Bel.rfl_ W1)
  have HO1 : Hid (W1.ownsRow W1.heap.size INT 1 (.slice none 0 0) 0 (((vs.take 0).map sizeW).map (Value.int .i64))) := Lib.hid (World.ownsRow_nil _ _ _ _)
  go_loopw [5, 6] (fun v i wr => ∃ j : Nat, i = .int .i64 j ∧ j ≤ vs.length ∧ Hid (wr.ownsRow W1.heap.size INT 1 v j (((vs.take j).map sizeW).map (Value.int .i64))) ∧ Hid (Bel W1 wr)) (fun _ i _ => vs.length - (intOf i).toNat)
  case atStart => exact ⟨0, rfl, Nat.zero_le _, HO1, HBB⟩
  case round =>
    obtain ⟨j, rfl, hj, HO, HB⟩ := hrel
    obtain ⟨WO, hWO⟩ : ∃ W, W = wr := ⟨_, rfl⟩
    subst hWO
    clear HO1 HBB
    by_cases hlt : j < vs.length
    · have hdd : decide ((j : Int) < vs.length) = true := decide_eq_true (by omega)
      obtain ⟨v, hv⟩ : ∃ v, vs[j]? = some v := ⟨_, List.getElem?_eq_getElem hlt⟩
      have HBW := Lib.hid (HB1.out.tr HB.out)
      obtain ⟨b, o, c2, A2, cl, he, hca, hsv⟩ := vars_at (HV.out.keep HBW.out) hv
      injection he with he1 _ he2
      subst he1 he2
      have HTS := Lib.hid (take_snoc hv)
      have hvl := HIN.out v (List.mem_of_getElem? hv)
      have i0 : (0 : Int) ≤ j := by omega
      have i1 : (j : Int) < vs.length := by omega
      clear hv hsv
      have FIN := Lib.hid (fun (w4 : World) (n : Int) (v4 : Value) (hn : n = sizeW v) (h : w4.ownsRow W1.heap.size INT 1 v4 (j + 1) (((vs.take j).map sizeW).map (Value.int .i64) ++ [.int .i64 n])) => show w4.ownsRow W1.heap.size INT 1 v4 (j + 1) (((vs.take (j + 1)).map sizeW).map (Value.int .i64)) by
        rw [HTS.out, List.map_append, List.map_append]
        subst hn
        exact h)
      by_cases h1 : v.length = 1
      · have d1 : ((v.length : Int) == 1) = true := by rw [h1]; rfl
        have HSZ : Hid ((0 : Int) = sizeW v) := Lib.hid (by unfold sizeW; rw [if_pos h1])
        clear h1
        go_wp2_with (at_builtin; go_loud (refine wpl_app WO rfl (.tmp 24) (.tmp 25) 23 rfl W1.heap.size elI u5 j _ rfl HO.out [.int .i64 0] rfl rfl (by simp [Value.oneCell']) (by simp only [maxLen]; omega) (by omega) HB.out.size ?_); intro g2 cap w4 hown4 hg4 _; have HO4 := Lib.hid hown4; have HG4 := Lib.hid hg4; clear hown4 hg4)
        go_roundw
        case rel => exact ⟨j + 1, by go_num, by omega, Lib.hid (FIN.out w4 0 _ HSZ.out HO4.out), Lib.hid (Below.grown HB.out HG4.out HB.out.size (fun k hk => (HO.out.lt k hk).1))⟩
        case measure => simp [intOf]; omega
      · have d1 : ((v.length : Int) == 1) = false := by rw [beq_eq_false_iff_ne]; omega
        have HSZ : Hid ((v.length : Int) + 1 = sizeW v) := Lib.hid (by unfold sizeW; rw [if_neg h1])
        clear h1
        go_wp2_with (at_builtin; go_loud (refine wpl_app WO rfl (.tmp 27) (.tmp 30) 23 rfl W1.heap.size elI u5 j _ rfl HO.out [.int .i64 ((v.length : Int) + 1)] rfl rfl (by simp [Value.oneCell']) (by simp only [maxLen]; omega) (by omega) HB.out.size ?_); intro g2 cap w4 hown4 hg4 _; have HO4 := Lib.hid hown4; have HG4 := Lib.hid hg4; clear hown4 hg4)
        go_roundw
        case rel => exact ⟨j + 1, by go_num, by omega, Lib.hid (FIN.out w4 _ _ HSZ.out HO4.out), Lib.hid (Below.grown HB.out HG4.out HB.out.size (fun k hk => (HO.out.lt k hk).1))⟩
        case measure => simp [intOf]; omega
    have hdd : decide ((j : Int) < vs.length) = false := decide_eq_false (by omega)
    have hjl : j = vs.length := by omega
    subst hjl
    have HZ : Hid (Sl intR WO u5 (vs.map sizeW)) := Lib.hid (by have := HO.out; rw [List.take_length] at this; exact Sl.own_int this (by rw [List.length_map]))
    have HBW := Lib.hid (HB1.out.tr HB.out)
    have HP2 := Lib.hid (HP1.out.keep HB.out)
    have c0 := HP2.out.cell (i := 0) (v := .int .i64 e.kind) rfl
    have c1 := HP2.out.cell (i := 1) (v := .int .i64 e.n) rfl
    have c2 := HP2.out.cell (i := 2) (v := va) rfl
    clear HO hj hlt
    go_wp2_with fail
    refine (HEX.out _ _ HBW.out HZ.out).mono ?_
    rintro r w3 ⟨rfl, hb3⟩
    have HB3 := Lib.hid (HBW.out.tr hb3)
    clear hb3 c0 c1 c2 HZ HP2
    go_wp2
    have HW0 : Hid (ER = if ER ≠ 0 then ER else if (vs.take 0).any (fun l => l.any notNum) = true then 3 else 0) := Lib.hid (by
      by_cases h : ER = 0
      · rw [if_neg (by simpa using h), h]; rfl
      · rw [if_pos h])
    go_loopw [8, 9] (fun v i wr => ∃ (j : Nat) (V : Int), i = .int .i64 j ∧ v = .int .i64 V ∧ j ≤ vs.length ∧ Hid (V = if ER ≠ 0 then ER else if (vs.take j).any (fun l => l.any notNum) = true then 3 else 0) ∧ Hid (Bel w wr)) (fun _ i _ => vs.length - (intOf i).toNat)
    case atStart => exact ⟨0, ER, rfl, rfl, Nat.zero_le _, HW0, HB3⟩
    case round =>
      obtain ⟨j, V, rfl, rfl, hj, HVV, HBR⟩ := hrel
      obtain ⟨WR, hWR⟩ : ∃ W, W = wr := ⟨_, rfl⟩
      subst hWR
      clear HW0 HB3
      by_cases hlt : j < vs.length
      rotate_left
      · have hdj : decide ((j : Int) < vs.length) = false := decide_eq_false (by omega)
        have hjl : j = vs.length := by omega
        subst hjl
        have HR : Hid (EE = V) := Lib.hid (by rw [HEE.out, HVV.out, List.take_length])
        clear HVV HEE
        go_wp2
        go_ret
        exact ⟨by rw [HR.out]; rfl, HBR.out⟩
      have hdj : decide ((j : Int) < vs.length) = true := decide_eq_true (by omega)
      by_cases hV : V = 0
      rotate_left
      · have dV : (V == 0) = false := by simpa using hV
        have HR : Hid (EE = V) := Lib.hid (by
          rw [HEE.out, HVV.out]
          by_cases h : ER = 0
          · have hvv := HVV.out
            have hn : ¬ ER ≠ 0 := fun hh => hh h
            rw [if_neg hn] at hvv ⊢
            rw [if_neg hn]
            by_cases ha : (vs.take j).any (fun l => l.any notNum) = true
            · rw [if_pos ha, if_pos (any_pre ha)]
            · rw [if_neg ha] at hvv; exact absurd hvv hV
          · rw [if_pos h, if_pos h])
        clear HVV HEE hV
        go_wp2
        go_ret
        exact ⟨by rw [HR.out]; rfl, HBR.out⟩
      subst hV
      have dV : ((0 : Int) == 0) = true := rfl
      obtain ⟨v, hv⟩ : ∃ v, vs[j]? = some v := ⟨_, List.getElem?_eq_getElem hlt⟩
      have HER : Hid (ER = 0 ∧ (vs.take j).any (fun l => l.any notNum) = false) := Lib.hid (by
        have hvv := HVV.out
        by_cases h : ER = 0
        · refine ⟨h, ?_⟩
          rw [if_neg (by simpa using h)] at hvv
          by_cases ha : (vs.take j).any (fun l => l.any notNum) = true
          · rw [if_pos ha] at hvv; omega
          · simpa using ha
        · rw [if_pos h] at hvv; exact absurd hvv.symm h)
      have HAT := Lib.hid (any_take (p := fun l => l.any notNum) hv)
      obtain ⟨b, o, c2, A2, cl, he, hca, hsv⟩ := vars_at (HV.out.keep HBR.out) hv
      injection he with he1 _ he2
      subst he1 he2
      have HSV := Lib.hid hsv
      have hvl := HIN.out v (List.mem_of_getElem? hv)
      have i0 : (0 : Int) ≤ j := by omega
      have i1 : (j : Int) < vs.length := by omega
      have HCA := Lib.hid hca
      clear hv hsv HVV
      go_wp2
      have HK0 : Hid ((0 : Int) = if (v.take 0).any notNum = true then 3 else 0) := Lib.hid rfl
      have HBZ := Lib.hid (Bel.rfl_ WR)
      go_loopw [8, 10] (fun u i wr => ∃ (k : Nat) (U : Int), i = .int .i64 k ∧ u = .int .i64 U ∧ k ≤ v.length ∧ Hid (U = if (v.take k).any notNum = true then 3 else 0) ∧ Hid (Bel WR wr)) (fun _ i _ => v.length - (intOf i).toNat)
      case atStart => exact ⟨0, 0, rfl, rfl, Nat.zero_le _, HK0, HBZ⟩
      case round =>
        obtain ⟨k, U, rfl, rfl, hk, HU, HBS⟩ := hrel
        obtain ⟨WS, hWS⟩ : ∃ W, W = wr := ⟨_, rfl⟩
        subst hWS
        clear HK0 HBZ hca
        have hca := HBS.out.cell HCA.out
        by_cases hkt : k < v.length
        · have hdk : decide ((k : Int) < v.length) = true := decide_eq_true (by omega)
          obtain ⟨n, hn⟩ : ∃ n, v[k]? = some n := ⟨_, List.getElem?_eq_getElem hkt⟩
          obtain ⟨b2, o2, rfl, hcc⟩ := vars_cell (HSV.out.keep HBS.out) hn
          have HNT := Lib.hid (any_take (p := notNum) hn)
          have HNU := Lib.hid (fun W => isNumber_any n W)
          have k0 : (0 : Int) ≤ k := by omega
          have k1 : (k : Int) < v.length := by omega
          clear hn
          go_wp2_with fail
          refine (HNU.out _).mono ?_
          rintro r w1 ⟨rfl, rfl⟩
          by_cases hnn : Num n
          · rw [decide_eq_true hnn]
            have HU2 : Hid (U = if (v.take (k + 1)).any notNum = true then 3 else 0) := Lib.hid (by rw [HNT.out, HU.out]; unfold notNum; rw [decide_eq_true hnn]; simp)
            clear HNU HU
            go_wp2
            go_roundw
            case rel => exact ⟨k + 1, U, by go_num, rfl, by omega, HU2, HBS⟩
            case measure => simp [intOf]; omega
          · rw [decide_eq_false hnn]
            have HU2 : Hid ((3 : Int) = if (v.take (k + 1)).any notNum = true then 3 else 0) := Lib.hid (by rw [HNT.out]; unfold notNum; rw [decide_eq_false hnn]; simp)
            clear HNU HU
            go_wp2
            go_roundw
            case rel => exact ⟨k + 1, 3, by go_num, rfl, by omega, HU2, HBS⟩
            case measure => simp [intOf]; omega
        have hdk : decide ((k : Int) < v.length) = false := decide_eq_false (by omega)
        have hkl : k = v.length := by omega
        subst hkl
        have HBF := Lib.hid (HBR.out.tr HBS.out)
        have HV2 : Hid (U = if ER ≠ 0 then ER else if (vs.take (j + 1)).any (fun l => l.any notNum) = true then 3 else 0) := Lib.hid (by
          obtain ⟨h1, h2⟩ := HER.out
          rw [if_neg (by simpa using h1), HAT.out, h2, HU.out, List.take_length, Bool.false_or])
        clear HU
        go_wp2
        go_roundw
        case rel => exact ⟨j + 1, U, by go_num, rfl, by omega, HV2, HBF⟩
        case measure => simp [intOf]; omega
end Go.Proofs.Ytgkpplbomciehaa
