/- Whether two lists of frames are one: the references' loops hand back just that. Each lemma states its own conditions. -/
import Derived.Test.YtgkpplbomciehaaSca01
import Derived.Test.YtgkpplbomciehaaSca41
namespace Go.Proofs.Ytgkpplbomciehaa
open Go.RowKit
abbrev intsR : Rep (List Int) := Rep.slice intR
instance : DecidableEq Fm := fun a b => decidable_of_iff (a.num = b.num ∧ a.fn = b.fn ∧ a.vars = b.vars) (by cases a; cases b; simp)
/-- three cells read as a frame -/
def frR : Rep Fm where
  size := 3
  R w cs f := ∃ vv, cs = [.int .i64 f.num, .int .i64 f.fn, vv] ∧ Sl intsR w vv f.vars
  len h := by obtain ⟨_, rfl, _⟩ := h; rfl
  keep hb h := by
    obtain ⟨vv, h1, h2⟩ := h
    exact ⟨vv, h1, h2.keep hb⟩
theorem VarsG.sl {w : World} {lo : Nat} {v : Value} {vs : List (List Int)} {gs : List Nat} (h : VarsG w lo v vs gs) : Sl intsR w v vs :=
  Sl.own (r := intsR) h.row rfl fun k x hx => by
    obtain ⟨g, hg, -, hm, hb⟩ := h.get hx
    refine ⟨.slice (some ⟨g, 0, none⟩) x.length x.length, ?_, _, _, rfl, Nat.le_refl _, ⟨hm, fun h => by cases h⟩, fun _ => ⟨g, 0, rfl, fun j y hy => ⟨_, rfl, fun i u hu => ?_⟩⟩⟩
    · show ((heads gs vs).drop (k * 1)).take 1 = _
      have h1 := heads_at hg hx
      obtain ⟨hl, h2⟩ := List.getElem?_eq_some_iff.1 h1
      rw [Nat.mul_one, List.drop_eq_getElem_cons hl, h2]
      rfl
    · obtain rfl : i = 0 := by
        cases i with
        | zero => rfl
        | succ i => simp at hu
      obtain rfl : Value.int .i64 y = u := by simpa using hu
      refine hb.cell ?_
      show (intCells x)[0 + j * 1 + 0]? = _
      unfold intCells
      rw [show 0 + j * 1 + 0 = j by omega]
      simp [hy]
/-- frames that lie in rows of the call's own -/
theorem frs_sl {w : World} {lo : Nat} {v : Value} {xs : List Fx} (h : w.ownsRow lo SFT 3 v xs.length (fxC xs)) (hv : ∀ x ∈ xs, VarsG w lo x.vv x.f.vars x.gs) : Sl frR w v (xs.map Fx.f) :=
  Sl.own (r := frR) h (by simp) fun k f hf => by
    rw [List.getElem?_map] at hf
    cases hx : xs[k]? with
    | none => rw [hx] at hf; cases hf
    | some x =>
      rw [hx] at hf
      obtain rfl : x.f = f := by simpa using hf
      refine ⟨x.vv, ?_, (hv x (List.mem_of_getElem? hx)).sl⟩
      show ((fxC xs).drop (k * 3)).take 3 = x.cells
      clear h hv hf
      induction xs generalizing k with
      | nil => simp at hx
      | cons y ys ih =>
        cases k with
        | zero =>
          obtain rfl : y = x := by simpa using hx
          simp [fxC, Fx.cells]
        | succ k =>
          rw [show fxC (y :: ys) = y.cells ++ fxC ys from rfl, show (k + 1) * 3 = y.cells.length + k * 3 by simp [Fx.cells]; omega, List.drop_append]
          simp
          rw [List.drop_eq_nil_of_le (by omega)]
          simpa using ih k (by simpa using hx)
section
variable {o : Oper} {ρ : Operand → Value} {W : World} {x y : Operand} {b f : Nat} {v : Value}
theorem rl_ints (ho : o.op = .load 24 x) (hx : ρ x = .pointer (some ⟨b, f, none⟩)) (hc : W.cell? ⟨b, f, none⟩ = some v) : (execOp ρ o).run Try.prog W = .ok (.value v) W := by
  simp [execOp, ho, hx, hc, go_sem]
theorem rb_ne {n m : Int} (ho : o.op = .binOp .neq 3 x y 3) (hx : ρ x = .int .i64 n) (hy : ρ y = .int .i64 m) {r : Bool} (h : (n != m) = r) : (execOp ρ o).run Try.prog W = .ok (.value (.bool r)) W := by
  subst h
  simp [execOp, ho, hx, hy, go_sem]
end
set_option maxRecDepth 20000 in
set_option maxHeartbeats 4000000 in
theorem sameInts_all (v u : Value) (xs ys : List Int) (w : World) (hx : Sl intR w v xs) (hy : Sl intR w u ys) :
    Calls Try.prog 45 #[v, u] w fun r w' => r = .returned (.bool (decide (xs = ys))) ∧ Bel w w' := by
  have HXS := Lib.hid hx
  have HYS := Lib.hid hy
  obtain ⟨A, c, rfl, hlx⟩ := sl_lit hx
  obtain ⟨B, d, rfl, hly⟩ := sl_lit hy
  clear hx hy
  have HRF := Lib.hid (Bel.rfl_ w)
  by_cases hl : xs.length = ys.length
  rotate_left
  · have hlen : ((xs.length : Int) != (ys.length : Int)) = true := by rw [bne_iff_ne]; omega
    have HR : Hid (decide (xs = ys) = false) := Lib.hid (decide_eq_false fun h => hl (by rw [h]))
    clear hl HXS HYS
    go_enter Try.func45, Try.ntmps45
    go_wp2
    go_ret
    exact ⟨ret_bool HR.out.symm, HRF.out⟩
  have hlen : ((xs.length : Int) != (ys.length : Int)) = false := by rw [hl]; simp
  have HT0 : Hid (xs.take 0 = ys.take 0) := Lib.hid rfl
  go_enter Try.func45, Try.ntmps45
  go_wp2
  go_loopw [5] (fun i wr => ∃ k : Nat, k ≤ xs.length ∧ i = .int .i64 k ∧ Hid (xs.take k = ys.take k) ∧ Hid (Bel w wr)) (fun i _ => xs.length - (intOf i).toNat)
  case atStart => exact ⟨0, by omega, rfl, HT0, HRF⟩
  case round =>
    obtain ⟨k, hk, rfl, ht, HB⟩ := hrel
    obtain ⟨WO, hWO⟩ : ∃ W, W = wr := ⟨_, rfl⟩
    subst hWO
    clear HT0 HRF
    by_cases hlt : k < xs.length
    rotate_left
    · have hdd : decide ((k : Int) < xs.length) = false := decide_eq_false (by omega)
      have HR : Hid (decide (xs = ys) = true) := Lib.hid (decide_eq_true (by
        have h1 := ht.out
        rwa [List.take_of_length_le (by omega), List.take_of_length_le (by omega)] at h1))
      clear ht HXS HYS
      go_wp2
      go_ret
      exact ⟨ret_bool HR.out.symm, HB.out⟩
    have hdd : decide ((k : Int) < xs.length) = true := decide_eq_true (by omega)
    obtain ⟨e, he⟩ : ∃ e, xs[k]? = some e := ⟨_, List.getElem?_eq_getElem hlt⟩
    obtain ⟨f, hf⟩ : ∃ e, ys[k]? = some e := ⟨_, List.getElem?_eq_getElem (by omega)⟩
    have HN : Hid ((e = f → xs.take (k + 1) = ys.take (k + 1)) ∧ (e ≠ f → decide (xs = ys) = false)) := Lib.hid ⟨fun h => takes_eq_succ he hf ht.out h, fun h => decide_eq_false (ne_of_gets he hf h)⟩
    have i0 : (0 : Int) ≤ k := by omega
    have i1 : (k : Int) < xs.length := by omega
    have i2 : (k : Int) < ys.length := by omega
    obtain ⟨ab, ao, cs, rfl, hcs, hca⟩ := HXS.out.elem he
    obtain ⟨bb, bo, ds, rfl, hds, hda⟩ := HYS.out.elem hf
    obtain rfl : cs = [.int .i64 e] := hcs
    obtain rfl : ds = [.int .i64 f] := hds
    have C1 : WO.cell? ⟨ab, ao + k, none⟩ = some (.int .i64 e) := HB.out.cell (by have := hca 0 _ rfl; rwa [show ao + k * intR.size + 0 = ao + k by show ao + k * 1 + 0 = _; omega] at this)
    have C2 : WO.cell? ⟨bb, bo + k, none⟩ = some (.int .i64 f) := HB.out.cell (by have := hda 0 _ rfl; rwa [show bo + k * intR.size + 0 = bo + k by show bo + k * 1 + 0 = _; omega] at this)
    clear he hf hca hda ht HXS HYS
    obtain ⟨sm, hsm⟩ : ∃ b : Bool, (e != f) = b := ⟨_, rfl⟩
    go_upto_region 6 with fail
    refine wp_region_held_drew (S := fun W => Bel WO W) (by kernel_rfl) ((Bel.rfl_ WO).dr) (fun hS => ?_)
    refine rt_take (i := 0) (some 17) (.slice (some ⟨ab, ao, none⟩) xs.length c) rfl rfl (by kernel_rfl) (by kernel_rfl) (by kernel_rfl) (fun _ _ _ h => h) (by kernel_rfl) hS (fun W _ => by kernel_rfl) ?_
    refine rt_take (i := 1) (some 18) (.int .i64 k) rfl rfl (by kernel_rfl) (by kernel_rfl) (by kernel_rfl) (fun _ _ _ h => h) (by kernel_rfl) hS (fun W _ => by kernel_rfl) ?_
    refine rt_take (i := 2) (some 19) (.pointer (some ⟨ab, ao + k, none⟩)) rfl rfl (by kernel_rfl) (by kernel_rfl) (by kernel_rfl) (fun _ _ _ h => h) (by kernel_rfl) hS (fun W _ => by go_simp) ?_
    refine rt_take (i := 3) (some 20) (.int .i64 e) rfl rfl (by kernel_rfl) (by kernel_rfl) (by kernel_rfl) (fun _ _ _ h => h) (by kernel_rfl) hS (fun W hb => rl_int rfl (by kernel_rfl) (hb.cell C1)) ?_
    refine rt_take (i := 4) (some 21) (.slice (some ⟨bb, bo, none⟩) ys.length d) rfl rfl (by kernel_rfl) (by kernel_rfl) (by kernel_rfl) (fun _ _ _ h => h) (by kernel_rfl) hS (fun W _ => by kernel_rfl) ?_
    refine rt_take (i := 5) (some 22) (.int .i64 k) rfl rfl (by kernel_rfl) (by kernel_rfl) (by kernel_rfl) (fun _ _ _ h => h) (by kernel_rfl) hS (fun W _ => by kernel_rfl) ?_
    refine rt_take (i := 6) (some 23) (.pointer (some ⟨bb, bo + k, none⟩)) rfl rfl (by kernel_rfl) (by kernel_rfl) (by kernel_rfl) (fun _ _ _ h => h) (by kernel_rfl) hS (fun W _ => by go_simp) ?_
    refine rt_take (i := 7) (some 24) (.int .i64 f) rfl rfl (by kernel_rfl) (by kernel_rfl) (by kernel_rfl) (fun _ _ _ h => h) (by kernel_rfl) hS (fun W hb => rl_int rfl (by kernel_rfl) (hb.cell C2)) ?_
    refine rt_take (i := 8) (some 25) (.bool sm) rfl rfl (by kernel_rfl) (by kernel_rfl) (by kernel_rfl) (fun _ _ _ h => h) (by kernel_rfl) hS (fun W _ => rb_ne rfl (by kernel_rfl) (by kernel_rfl) hsm) ?_
    refine wpAnyH_done (by kernel_rfl) ?_ _
    try simp only [Act.put, List.setIfInBounds_toArray, List.set_cons_zero, List.set_cons_succ]
    replace HB := Lib.hid (HB.out.tr hS)
    clear hS
    cases sm with
    | false =>
      have HR := Lib.hid (HN.out.1 (by simpa using hsm))
      go_wp2
      go_roundw
      case rel => exact ⟨k + 1, by omega, by go_num, HR, HB⟩
      case measure => simp [intOf]; omega
    | true =>
      have HR := Lib.hid (HN.out.2 (by simpa using hsm))
      go_wp2
      go_ret
      exact ⟨ret_bool HR.out.symm, HB.out⟩
set_option maxRecDepth 20000 in
set_option maxHeartbeats 4000000 in
theorem sameLists_any (v u : Value) (xs ys : List (List Int)) (w : World) (hx : Sl intsR w v xs) (hy : Sl intsR w u ys) :
    Calls Try.prog 84 #[v, u] w fun r w' => r = .returned (.bool (decide (xs = ys))) ∧ Bel w w' := by
  have HXS := Lib.hid hx
  have HYS := Lib.hid hy
  obtain ⟨A, c, rfl, hlx⟩ := sl_lit hx
  obtain ⟨B, d, rfl, hly⟩ := sl_lit hy
  clear hx hy
  have HRF := Lib.hid (Bel.rfl_ w)
  by_cases hl : xs.length = ys.length
  rotate_left
  · have hlen : ((xs.length : Int) != (ys.length : Int)) = true := by rw [bne_iff_ne]; omega
    have HR : Hid (decide (xs = ys) = false) := Lib.hid (decide_eq_false fun h => hl (by rw [h]))
    clear hl HXS HYS
    go_enter Try.func84, Try.ntmps84
    go_wp2
    go_ret
    exact ⟨ret_bool HR.out.symm, HRF.out⟩
  have hlen : ((xs.length : Int) != (ys.length : Int)) = false := by rw [hl]; simp
  have HT0 : Hid (xs.take 0 = ys.take 0) := Lib.hid rfl
  go_enter Try.func84, Try.ntmps84
  go_wp2
  go_loopw [5] (fun i wr => ∃ k : Nat, k ≤ xs.length ∧ i = .int .i64 k ∧ Hid (xs.take k = ys.take k) ∧ Hid (Bel w wr)) (fun i _ => xs.length - (intOf i).toNat)
  case atStart => exact ⟨0, by omega, rfl, HT0, HRF⟩
  case round =>
    obtain ⟨k, hk, rfl, ht, HB⟩ := hrel
    obtain ⟨WO, hWO⟩ : ∃ W, W = wr := ⟨_, rfl⟩
    subst hWO
    clear HT0 HRF
    by_cases hlt : k < xs.length
    rotate_left
    · have hdd : decide ((k : Int) < xs.length) = false := decide_eq_false (by omega)
      have HR : Hid (decide (xs = ys) = true) := Lib.hid (decide_eq_true (by
        have h1 := ht.out
        rwa [List.take_of_length_le (by omega), List.take_of_length_le (by omega)] at h1))
      clear ht HXS HYS
      go_wp2
      go_ret
      exact ⟨ret_bool HR.out.symm, HB.out⟩
    have hdd : decide ((k : Int) < xs.length) = true := decide_eq_true (by omega)
    obtain ⟨e, he⟩ : ∃ e, xs[k]? = some e := ⟨_, List.getElem?_eq_getElem hlt⟩
    obtain ⟨f, hf⟩ : ∃ e, ys[k]? = some e := ⟨_, List.getElem?_eq_getElem (by omega)⟩
    have HN : Hid ((e = f → xs.take (k + 1) = ys.take (k + 1)) ∧ (e ≠ f → decide (xs = ys) = false)) := Lib.hid ⟨fun h => takes_eq_succ he hf ht.out h, fun h => decide_eq_false (ne_of_gets he hf h)⟩
    have i0 : (0 : Int) ≤ k := by omega
    have i1 : (k : Int) < xs.length := by omega
    have i2 : (k : Int) < ys.length := by omega
    obtain ⟨ab, ao, cs, rfl, hcs, hca⟩ := HXS.out.elem he
    obtain ⟨bb, bo, ds, rfl, hds, hda⟩ := HYS.out.elem hf
    obtain ⟨v1, rfl, hs1⟩ := hcs
    obtain ⟨v2, rfl, hs2⟩ := hds
    have HSI := Lib.hid (fun W (h : Bel w W) => sameInts_all _ _ e f W (hs1.keep h) (hs2.keep h))
    obtain ⟨A1, c1, rfl, -⟩ := sl_lit hs1
    obtain ⟨A2, c2, rfl, -⟩ := sl_lit hs2
    have C1 : WO.cell? ⟨ab, ao + k, none⟩ = some (.slice A1 e.length c1) := HB.out.cell (by have := hca 0 _ rfl; rwa [show ao + k * intsR.size + 0 = ao + k by show ao + k * 1 + 0 = _; omega] at this)
    have C2 : WO.cell? ⟨bb, bo + k, none⟩ = some (.slice A2 f.length c2) := HB.out.cell (by have := hda 0 _ rfl; rwa [show bo + k * intsR.size + 0 = bo + k by show bo + k * 1 + 0 = _; omega] at this)
    clear he hf hca hda hs1 hs2 ht HXS HYS
    obtain ⟨sm, hsm⟩ : ∃ b : Bool, decide (e = f) = b := ⟨_, rfl⟩
    rw [hsm] at HSI
    go_upto_region 6 with fail
    refine wp_region_held_drew (S := fun W => Bel WO W) (by kernel_rfl) ((Bel.rfl_ WO).dr) (fun hS => ?_)
    refine rt_take (i := 0) (some 17) (.slice (some ⟨ab, ao, none⟩) xs.length c) rfl rfl (by kernel_rfl) (by kernel_rfl) (by kernel_rfl) (fun _ _ _ h => h) (by kernel_rfl) hS (fun W _ => by kernel_rfl) ?_
    refine rt_take (i := 1) (some 18) (.int .i64 k) rfl rfl (by kernel_rfl) (by kernel_rfl) (by kernel_rfl) (fun _ _ _ h => h) (by kernel_rfl) hS (fun W _ => by kernel_rfl) ?_
    refine rt_take (i := 2) (some 19) (.pointer (some ⟨ab, ao + k, none⟩)) rfl rfl (by kernel_rfl) (by kernel_rfl) (by kernel_rfl) (fun _ _ _ h => h) (by kernel_rfl) hS (fun W _ => by go_simp) ?_
    refine rt_take (i := 3) (some 20) (.slice A1 e.length c1) rfl rfl (by kernel_rfl) (by kernel_rfl) (by kernel_rfl) (fun _ _ _ h => h) (by kernel_rfl) hS (fun W hb => rl_is rfl (by kernel_rfl) (hb.cell C1)) ?_
    refine rt_take (i := 4) (some 21) (.slice (some ⟨bb, bo, none⟩) ys.length d) rfl rfl (by kernel_rfl) (by kernel_rfl) (by kernel_rfl) (fun _ _ _ h => h) (by kernel_rfl) hS (fun W _ => by kernel_rfl) ?_
    refine rt_take (i := 5) (some 22) (.int .i64 k) rfl rfl (by kernel_rfl) (by kernel_rfl) (by kernel_rfl) (fun _ _ _ h => h) (by kernel_rfl) hS (fun W _ => by kernel_rfl) ?_
    refine rt_take (i := 6) (some 23) (.pointer (some ⟨bb, bo + k, none⟩)) rfl rfl (by kernel_rfl) (by kernel_rfl) (by kernel_rfl) (fun _ _ _ h => h) (by kernel_rfl) hS (fun W _ => by go_simp) ?_
    refine rt_take (i := 7) (some 24) (.slice A2 f.length c2) rfl rfl (by kernel_rfl) (by kernel_rfl) (by kernel_rfl) (fun _ _ _ h => h) (by kernel_rfl) hS (fun W hb => rl_is rfl (by kernel_rfl) (hb.cell C2)) ?_
    refine rt_call (i := 8) (some 25) (by kernel_rfl) rfl rfl (by kernel_rfl) 45 #[.slice A1 e.length c1, .slice A2 f.length c2] (by kernel_rfl) (HSI.out _ (HB.out.tr hS)) ?_
    rintro x1 W9 ⟨rfl, hb⟩
    refine ⟨_, rfl, hS.tr hb, fun hS => ?_⟩
    refine rt_take (i := 9) (some 26) (.bool (!sm)) rfl rfl (by kernel_rfl) (by kernel_rfl) (by kernel_rfl) (fun _ _ _ h => h) (by kernel_rfl) hS (fun W _ => by kernel_rfl) ?_
    refine wpAnyH_done (by kernel_rfl) ?_ _
    try simp only [Act.put, List.setIfInBounds_toArray, List.set_cons_zero, List.set_cons_succ]
    replace HB := Lib.hid (HB.out.tr hS)
    clear hS
    cases sm with
    | true =>
      have HR := Lib.hid (HN.out.1 (of_decide_eq_true hsm))
      clear HSI
      go_wp2
      go_roundw
      case rel => exact ⟨k + 1, by omega, by go_num, HR, HB⟩
      case measure => simp [intOf]; omega
    | false =>
      have HR := Lib.hid (HN.out.2 (of_decide_eq_false hsm))
      clear HSI
      go_wp2
      go_ret
      exact ⟨ret_bool HR.out.symm, HB.out⟩
set_option maxRecDepth 20000 in
set_option maxHeartbeats 4000000 in
theorem sameFrames_any (v u : Value) (xs ys : List Fm) (w : World) (hx : Sl frR w v xs) (hy : Sl frR w u ys) :
    Calls Try.prog 42 #[v, u] w fun r w' => r = .returned (.bool (decide (xs = ys))) ∧ Bel w w' := by
  have HXS := Lib.hid hx
  have HYS := Lib.hid hy
  obtain ⟨A, c, rfl, hlx⟩ := sl_lit hx
  obtain ⟨B, d, rfl, hly⟩ := sl_lit hy
  clear hx hy
  have HRF := Lib.hid (Bel.rfl_ w)
  by_cases hl : xs.length = ys.length
  rotate_left
  · have hlen : ((xs.length : Int) != (ys.length : Int)) = true := by rw [bne_iff_ne]; omega
    have HR : Hid (decide (xs = ys) = false) := Lib.hid (decide_eq_false fun h => hl (by rw [h]))
    clear hl HXS HYS
    go_enter Try.func42, Try.ntmps42
    go_wp2
    go_ret
    exact ⟨ret_bool HR.out.symm, HRF.out⟩
  have hlen : ((xs.length : Int) != (ys.length : Int)) = false := by rw [hl]; simp
  have HT0 : Hid (xs.take 0 = ys.take 0) := Lib.hid rfl
  go_enter Try.func42, Try.ntmps42
  go_wp2
  go_loopw [5] (fun i wr => ∃ k : Nat, k ≤ xs.length ∧ i = .int .i64 k ∧ Hid (xs.take k = ys.take k) ∧ Hid (Bel w wr)) (fun i _ => xs.length - (intOf i).toNat)
  case atStart => exact ⟨0, by omega, rfl, HT0, HRF⟩
  case round =>
    obtain ⟨k, hk, rfl, ht, HB⟩ := hrel
    obtain ⟨WO, hWO⟩ : ∃ W, W = wr := ⟨_, rfl⟩
    subst hWO
    clear HT0 HRF
    by_cases hlt : k < xs.length
    rotate_left
    · have hdd : decide ((k : Int) < xs.length) = false := decide_eq_false (by omega)
      have HR : Hid (decide (xs = ys) = true) := Lib.hid (decide_eq_true (by
        have h1 := ht.out
        rwa [List.take_of_length_le (by omega), List.take_of_length_le (by omega)] at h1))
      clear ht HXS HYS
      go_wp2
      go_ret
      exact ⟨ret_bool HR.out.symm, HB.out⟩
    have hdd : decide ((k : Int) < xs.length) = true := decide_eq_true (by omega)
    obtain ⟨e, he⟩ : ∃ e, xs[k]? = some e := ⟨_, List.getElem?_eq_getElem hlt⟩
    obtain ⟨f, hf⟩ : ∃ e, ys[k]? = some e := ⟨_, List.getElem?_eq_getElem (by omega)⟩
    have HN : Hid ((e = f → xs.take (k + 1) = ys.take (k + 1)) ∧ (e ≠ f → decide (xs = ys) = false)) := Lib.hid ⟨fun h => takes_eq_succ he hf ht.out h, fun h => decide_eq_false (ne_of_gets he hf h)⟩
    have i0 : (0 : Int) ≤ k := by omega
    have i1 : (k : Int) < xs.length := by omega
    have i2 : (k : Int) < ys.length := by omega
    obtain ⟨ab, ao, cs, rfl, hcs, hca⟩ := HXS.out.elem he
    obtain ⟨bb, bo, ds, rfl, hds, hda⟩ := HYS.out.elem hf
    obtain ⟨v1, rfl, hs1⟩ := hcs
    obtain ⟨v2, rfl, hs2⟩ := hds
    have HSI := Lib.hid (fun W (h : Bel w W) => sameLists_any _ _ e.vars f.vars W (hs1.keep h) (hs2.keep h))
    obtain ⟨A1, c1, rfl, -⟩ := sl_lit hs1
    obtain ⟨A2, c2, rfl, -⟩ := sl_lit hs2
    have C10 := HB.out.cell (hca 0 _ rfl)
    have C11 := HB.out.cell (hca 1 _ rfl)
    have C12 := HB.out.cell (hca 2 _ rfl)
    have C20 := HB.out.cell (hda 0 _ rfl)
    have C21 := HB.out.cell (hda 1 _ rfl)
    have C22 := HB.out.cell (hda 2 _ rfl)
    clear he hf hca hda hs1 hs2 ht HXS HYS
    obtain ⟨b1, hb1⟩ : ∃ b : Bool, (e.num != f.num) = b := ⟨_, rfl⟩
    obtain ⟨b2, hb2⟩ : ∃ b : Bool, (e.fn != f.fn) = b := ⟨_, rfl⟩
    go_upto_region 6 with fail
    cases b1 with
    | true =>
      refine wp_region_held_drew (S := fun W => Bel WO W) (by kernel_rfl) ((Bel.rfl_ WO).dr) (fun hS => ?_)
      refine rt_take (i := 0) (some 17) (.slice (some ⟨ab, ao, none⟩) xs.length c) rfl rfl (by kernel_rfl) (by kernel_rfl) (by kernel_rfl) (fun _ _ _ h => h) (by kernel_rfl) hS (fun W _ => by kernel_rfl) ?_
      refine rt_take (i := 1) (some 18) (.int .i64 k) rfl rfl (by kernel_rfl) (by kernel_rfl) (by kernel_rfl) (fun _ _ _ h => h) (by kernel_rfl) hS (fun W _ => by kernel_rfl) ?_
      refine rt_take (i := 2) (some 19) (.pointer (some ⟨ab, ao + k * 3, none⟩)) rfl rfl (by kernel_rfl) (by kernel_rfl) (by kernel_rfl) (fun _ _ _ h => h) (by kernel_rfl) hS (fun W _ => by go_simp) ?_
      refine rt_take (i := 3) (some 20) (.pointer (some ⟨ab, ao + k * 3, none⟩)) rfl rfl (by kernel_rfl) (by kernel_rfl) (by kernel_rfl) (fun _ _ _ h => h) (by kernel_rfl) hS (fun W _ => by kernel_rfl) ?_
      refine rt_take (i := 4) (some 21) (.int .i64 e.num) rfl rfl (by kernel_rfl) (by kernel_rfl) (by kernel_rfl) (fun _ _ _ h => h) (by kernel_rfl) hS (fun W hb => rl_int rfl (by kernel_rfl) (hb.cell C10)) ?_
      refine rt_take (i := 5) (some 22) (.slice (some ⟨bb, bo, none⟩) ys.length d) rfl rfl (by kernel_rfl) (by kernel_rfl) (by kernel_rfl) (fun _ _ _ h => h) (by kernel_rfl) hS (fun W _ => by kernel_rfl) ?_
      refine rt_take (i := 6) (some 23) (.int .i64 k) rfl rfl (by kernel_rfl) (by kernel_rfl) (by kernel_rfl) (fun _ _ _ h => h) (by kernel_rfl) hS (fun W _ => by kernel_rfl) ?_
      refine rt_take (i := 7) (some 24) (.pointer (some ⟨bb, bo + k * 3, none⟩)) rfl rfl (by kernel_rfl) (by kernel_rfl) (by kernel_rfl) (fun _ _ _ h => h) (by kernel_rfl) hS (fun W _ => by go_simp) ?_
      refine rt_take (i := 8) (some 25) (.pointer (some ⟨bb, bo + k * 3, none⟩)) rfl rfl (by kernel_rfl) (by kernel_rfl) (by kernel_rfl) (fun _ _ _ h => h) (by kernel_rfl) hS (fun W _ => by kernel_rfl) ?_
      refine rt_take (i := 9) (some 26) (.int .i64 f.num) rfl rfl (by kernel_rfl) (by kernel_rfl) (by kernel_rfl) (fun _ _ _ h => h) (by kernel_rfl) hS (fun W hb => rl_int rfl (by kernel_rfl) (hb.cell C20)) ?_
      refine rt_take (i := 10) (some 27) (.bool true) rfl rfl (by kernel_rfl) (by kernel_rfl) (by kernel_rfl) (fun _ _ _ h => h) (by kernel_rfl) hS (fun W _ => rb_ne rfl (by kernel_rfl) (by kernel_rfl) hb1) ?_
      refine rt_take (i := 11) (some 28) (.bool true) rfl rfl (by kernel_rfl) (by kernel_rfl) (by kernel_rfl) (fun _ _ _ h => h) (by kernel_rfl) hS (fun W _ => by kernel_rfl) ?_
      refine rt_skip (i := 12) (some 29) rfl rfl (by kernel_rfl) (by kernel_rfl) (by kernel_rfl) (fun _ _ _ h => h) (by kernel_rfl) hS ?_
      refine rt_skip (i := 13) (some 30) rfl rfl (by kernel_rfl) (by kernel_rfl) (by kernel_rfl) (fun _ _ _ h => h) (by kernel_rfl) hS ?_
      refine rt_skip (i := 14) (some 31) rfl rfl (by kernel_rfl) (by kernel_rfl) (by kernel_rfl) (fun _ _ _ h => h) (by kernel_rfl) hS ?_
      refine rt_skip (i := 15) (some 32) rfl rfl (by kernel_rfl) (by kernel_rfl) (by kernel_rfl) (fun _ _ _ h => h) (by kernel_rfl) hS ?_
      refine rt_skip (i := 16) (some 33) rfl rfl (by kernel_rfl) (by kernel_rfl) (by kernel_rfl) (fun _ _ _ h => h) (by kernel_rfl) hS ?_
      refine rt_skip (i := 17) (some 34) rfl rfl (by kernel_rfl) (by kernel_rfl) (by kernel_rfl) (fun _ _ _ h => h) (by kernel_rfl) hS ?_
      refine rt_skip (i := 18) (some 35) rfl rfl (by kernel_rfl) (by kernel_rfl) (by kernel_rfl) (fun _ _ _ h => h) (by kernel_rfl) hS ?_
      refine rt_skip (i := 19) (some 36) rfl rfl (by kernel_rfl) (by kernel_rfl) (by kernel_rfl) (fun _ _ _ h => h) (by kernel_rfl) hS ?_
      refine rt_skip (i := 20) (some 37) rfl rfl (by kernel_rfl) (by kernel_rfl) (by kernel_rfl) (fun _ _ _ h => h) (by kernel_rfl) hS ?_
      refine rt_skip (i := 21) (some 38) rfl rfl (by kernel_rfl) (by kernel_rfl) (by kernel_rfl) (fun _ _ _ h => h) (by kernel_rfl) hS ?_
      refine rt_skip (i := 22) (some 39) rfl rfl (by kernel_rfl) (by kernel_rfl) (by kernel_rfl) (fun _ _ _ h => h) (by kernel_rfl) hS ?_
      refine rt_take (i := 23) (some 40) (.bool true) rfl rfl (by kernel_rfl) (by kernel_rfl) (by kernel_rfl) (fun _ _ _ h => h) (by kernel_rfl) hS (fun W _ => by kernel_rfl) ?_
      refine rt_take (i := 24) (some 41) (.bool true) rfl rfl (by kernel_rfl) (by kernel_rfl) (by kernel_rfl) (fun _ _ _ h => h) (by kernel_rfl) hS (fun W _ => by kernel_rfl) ?_
      refine rt_skip (i := 25) (some 42) rfl rfl (by kernel_rfl) (by kernel_rfl) (by kernel_rfl) (fun _ _ _ h => h) (by kernel_rfl) hS ?_
      refine rt_skip (i := 26) (some 43) rfl rfl (by kernel_rfl) (by kernel_rfl) (by kernel_rfl) (fun _ _ _ h => h) (by kernel_rfl) hS ?_
      refine rt_skip (i := 27) (some 44) rfl rfl (by kernel_rfl) (by kernel_rfl) (by kernel_rfl) (fun _ _ _ h => h) (by kernel_rfl) hS ?_
      refine rt_skip (i := 28) (some 45) rfl rfl (by kernel_rfl) (by kernel_rfl) (by kernel_rfl) (fun _ _ _ h => h) (by kernel_rfl) hS ?_
      refine rt_skip (i := 29) (some 46) rfl rfl (by kernel_rfl) (by kernel_rfl) (by kernel_rfl) (fun _ _ _ h => h) (by kernel_rfl) hS ?_
      refine rt_skip (i := 30) (some 47) rfl rfl (by kernel_rfl) (by kernel_rfl) (by kernel_rfl) (fun _ _ _ h => h) (by kernel_rfl) hS ?_
      refine rt_skip (i := 31) (some 48) rfl rfl (by kernel_rfl) (by kernel_rfl) (by kernel_rfl) (fun _ _ _ h => h) (by kernel_rfl) hS ?_
      refine rt_skip (i := 32) (some 49) rfl rfl (by kernel_rfl) (by kernel_rfl) (by kernel_rfl) (fun _ _ _ h => h) (by kernel_rfl) hS ?_
      refine rt_skip (i := 33) (some 50) rfl rfl (by kernel_rfl) (by kernel_rfl) (by kernel_rfl) (fun _ _ _ h => h) (by kernel_rfl) hS ?_
      refine rt_skip (i := 34) (some 51) rfl rfl (by kernel_rfl) (by kernel_rfl) (by kernel_rfl) (fun _ _ _ h => h) (by kernel_rfl) hS ?_
      refine rt_skip (i := 35) (some 52) rfl rfl (by kernel_rfl) (by kernel_rfl) (by kernel_rfl) (fun _ _ _ h => h) (by kernel_rfl) hS ?_
      refine rt_skip (i := 36) (some 53) rfl rfl (by kernel_rfl) (by kernel_rfl) (by kernel_rfl) (fun _ _ _ h => h) (by kernel_rfl) hS ?_
      refine rt_take (i := 37) (some 54) (.bool true) rfl rfl (by kernel_rfl) (by kernel_rfl) (by kernel_rfl) (fun _ _ _ h => h) (by kernel_rfl) hS (fun W _ => by kernel_rfl) ?_
      refine wpAnyH_done (by kernel_rfl) ?_ _
      try simp only [Act.put, List.setIfInBounds_toArray, List.set_cons_zero, List.set_cons_succ]
      replace HB := Lib.hid (HB.out.tr hS)
      have HR := Lib.hid (HN.out.2 (by rintro rfl; simp at hb1))
      clear hS HSI
      go_wp2
      go_ret
      exact ⟨ret_bool HR.out.symm, HB.out⟩
    | false =>
      cases b2 with
      | true =>
        refine wp_region_held_drew (S := fun W => Bel WO W) (by kernel_rfl) ((Bel.rfl_ WO).dr) (fun hS => ?_)
        refine rt_take (i := 0) (some 17) (.slice (some ⟨ab, ao, none⟩) xs.length c) rfl rfl (by kernel_rfl) (by kernel_rfl) (by kernel_rfl) (fun _ _ _ h => h) (by kernel_rfl) hS (fun W _ => by kernel_rfl) ?_
        refine rt_take (i := 1) (some 18) (.int .i64 k) rfl rfl (by kernel_rfl) (by kernel_rfl) (by kernel_rfl) (fun _ _ _ h => h) (by kernel_rfl) hS (fun W _ => by kernel_rfl) ?_
        refine rt_take (i := 2) (some 19) (.pointer (some ⟨ab, ao + k * 3, none⟩)) rfl rfl (by kernel_rfl) (by kernel_rfl) (by kernel_rfl) (fun _ _ _ h => h) (by kernel_rfl) hS (fun W _ => by go_simp) ?_
        refine rt_take (i := 3) (some 20) (.pointer (some ⟨ab, ao + k * 3, none⟩)) rfl rfl (by kernel_rfl) (by kernel_rfl) (by kernel_rfl) (fun _ _ _ h => h) (by kernel_rfl) hS (fun W _ => by kernel_rfl) ?_
        refine rt_take (i := 4) (some 21) (.int .i64 e.num) rfl rfl (by kernel_rfl) (by kernel_rfl) (by kernel_rfl) (fun _ _ _ h => h) (by kernel_rfl) hS (fun W hb => rl_int rfl (by kernel_rfl) (hb.cell C10)) ?_
        refine rt_take (i := 5) (some 22) (.slice (some ⟨bb, bo, none⟩) ys.length d) rfl rfl (by kernel_rfl) (by kernel_rfl) (by kernel_rfl) (fun _ _ _ h => h) (by kernel_rfl) hS (fun W _ => by kernel_rfl) ?_
        refine rt_take (i := 6) (some 23) (.int .i64 k) rfl rfl (by kernel_rfl) (by kernel_rfl) (by kernel_rfl) (fun _ _ _ h => h) (by kernel_rfl) hS (fun W _ => by kernel_rfl) ?_
        refine rt_take (i := 7) (some 24) (.pointer (some ⟨bb, bo + k * 3, none⟩)) rfl rfl (by kernel_rfl) (by kernel_rfl) (by kernel_rfl) (fun _ _ _ h => h) (by kernel_rfl) hS (fun W _ => by go_simp) ?_
        refine rt_take (i := 8) (some 25) (.pointer (some ⟨bb, bo + k * 3, none⟩)) rfl rfl (by kernel_rfl) (by kernel_rfl) (by kernel_rfl) (fun _ _ _ h => h) (by kernel_rfl) hS (fun W _ => by kernel_rfl) ?_
        refine rt_take (i := 9) (some 26) (.int .i64 f.num) rfl rfl (by kernel_rfl) (by kernel_rfl) (by kernel_rfl) (fun _ _ _ h => h) (by kernel_rfl) hS (fun W hb => rl_int rfl (by kernel_rfl) (hb.cell C20)) ?_
        refine rt_take (i := 10) (some 27) (.bool false) rfl rfl (by kernel_rfl) (by kernel_rfl) (by kernel_rfl) (fun _ _ _ h => h) (by kernel_rfl) hS (fun W _ => rb_ne rfl (by kernel_rfl) (by kernel_rfl) hb1) ?_
        refine rt_take (i := 11) (some 28) (.bool false) rfl rfl (by kernel_rfl) (by kernel_rfl) (by kernel_rfl) (fun _ _ _ h => h) (by kernel_rfl) hS (fun W _ => by kernel_rfl) ?_
        refine rt_take (i := 12) (some 29) (.slice (some ⟨ab, ao, none⟩) xs.length c) rfl rfl (by kernel_rfl) (by kernel_rfl) (by kernel_rfl) (fun _ _ _ h => h) (by kernel_rfl) hS (fun W _ => by kernel_rfl) ?_
        refine rt_take (i := 13) (some 30) (.int .i64 k) rfl rfl (by kernel_rfl) (by kernel_rfl) (by kernel_rfl) (fun _ _ _ h => h) (by kernel_rfl) hS (fun W _ => by kernel_rfl) ?_
        refine rt_take (i := 14) (some 31) (.pointer (some ⟨ab, ao + k * 3, none⟩)) rfl rfl (by kernel_rfl) (by kernel_rfl) (by kernel_rfl) (fun _ _ _ h => h) (by kernel_rfl) hS (fun W _ => by go_simp) ?_
        refine rt_take (i := 15) (some 32) (.pointer (some ⟨ab, ao + k * 3 + 1, none⟩)) rfl rfl (by kernel_rfl) (by kernel_rfl) (by kernel_rfl) (fun _ _ _ h => h) (by kernel_rfl) hS (fun W _ => by kernel_rfl) ?_
        refine rt_take (i := 16) (some 33) (.int .i64 e.fn) rfl rfl (by kernel_rfl) (by kernel_rfl) (by kernel_rfl) (fun _ _ _ h => h) (by kernel_rfl) hS (fun W hb => rl_int rfl (by kernel_rfl) (hb.cell C11)) ?_
        refine rt_take (i := 17) (some 34) (.slice (some ⟨bb, bo, none⟩) ys.length d) rfl rfl (by kernel_rfl) (by kernel_rfl) (by kernel_rfl) (fun _ _ _ h => h) (by kernel_rfl) hS (fun W _ => by kernel_rfl) ?_
        refine rt_take (i := 18) (some 35) (.int .i64 k) rfl rfl (by kernel_rfl) (by kernel_rfl) (by kernel_rfl) (fun _ _ _ h => h) (by kernel_rfl) hS (fun W _ => by kernel_rfl) ?_
        refine rt_take (i := 19) (some 36) (.pointer (some ⟨bb, bo + k * 3, none⟩)) rfl rfl (by kernel_rfl) (by kernel_rfl) (by kernel_rfl) (fun _ _ _ h => h) (by kernel_rfl) hS (fun W _ => by go_simp) ?_
        refine rt_take (i := 20) (some 37) (.pointer (some ⟨bb, bo + k * 3 + 1, none⟩)) rfl rfl (by kernel_rfl) (by kernel_rfl) (by kernel_rfl) (fun _ _ _ h => h) (by kernel_rfl) hS (fun W _ => by kernel_rfl) ?_
        refine rt_take (i := 21) (some 38) (.int .i64 f.fn) rfl rfl (by kernel_rfl) (by kernel_rfl) (by kernel_rfl) (fun _ _ _ h => h) (by kernel_rfl) hS (fun W hb => rl_int rfl (by kernel_rfl) (hb.cell C21)) ?_
        refine rt_take (i := 22) (some 39) (.bool true) rfl rfl (by kernel_rfl) (by kernel_rfl) (by kernel_rfl) (fun _ _ _ h => h) (by kernel_rfl) hS (fun W _ => rb_ne rfl (by kernel_rfl) (by kernel_rfl) hb2) ?_
        refine rt_take (i := 23) (some 40) (.bool true) rfl rfl (by kernel_rfl) (by kernel_rfl) (by kernel_rfl) (fun _ _ _ h => h) (by kernel_rfl) hS (fun W _ => by kernel_rfl) ?_
        refine rt_take (i := 24) (some 41) (.bool true) rfl rfl (by kernel_rfl) (by kernel_rfl) (by kernel_rfl) (fun _ _ _ h => h) (by kernel_rfl) hS (fun W _ => by kernel_rfl) ?_
        refine rt_skip (i := 25) (some 42) rfl rfl (by kernel_rfl) (by kernel_rfl) (by kernel_rfl) (fun _ _ _ h => h) (by kernel_rfl) hS ?_
        refine rt_skip (i := 26) (some 43) rfl rfl (by kernel_rfl) (by kernel_rfl) (by kernel_rfl) (fun _ _ _ h => h) (by kernel_rfl) hS ?_
        refine rt_skip (i := 27) (some 44) rfl rfl (by kernel_rfl) (by kernel_rfl) (by kernel_rfl) (fun _ _ _ h => h) (by kernel_rfl) hS ?_
        refine rt_skip (i := 28) (some 45) rfl rfl (by kernel_rfl) (by kernel_rfl) (by kernel_rfl) (fun _ _ _ h => h) (by kernel_rfl) hS ?_
        refine rt_skip (i := 29) (some 46) rfl rfl (by kernel_rfl) (by kernel_rfl) (by kernel_rfl) (fun _ _ _ h => h) (by kernel_rfl) hS ?_
        refine rt_skip (i := 30) (some 47) rfl rfl (by kernel_rfl) (by kernel_rfl) (by kernel_rfl) (fun _ _ _ h => h) (by kernel_rfl) hS ?_
        refine rt_skip (i := 31) (some 48) rfl rfl (by kernel_rfl) (by kernel_rfl) (by kernel_rfl) (fun _ _ _ h => h) (by kernel_rfl) hS ?_
        refine rt_skip (i := 32) (some 49) rfl rfl (by kernel_rfl) (by kernel_rfl) (by kernel_rfl) (fun _ _ _ h => h) (by kernel_rfl) hS ?_
        refine rt_skip (i := 33) (some 50) rfl rfl (by kernel_rfl) (by kernel_rfl) (by kernel_rfl) (fun _ _ _ h => h) (by kernel_rfl) hS ?_
        refine rt_skip (i := 34) (some 51) rfl rfl (by kernel_rfl) (by kernel_rfl) (by kernel_rfl) (fun _ _ _ h => h) (by kernel_rfl) hS ?_
        refine rt_skip (i := 35) (some 52) rfl rfl (by kernel_rfl) (by kernel_rfl) (by kernel_rfl) (fun _ _ _ h => h) (by kernel_rfl) hS ?_
        refine rt_skip (i := 36) (some 53) rfl rfl (by kernel_rfl) (by kernel_rfl) (by kernel_rfl) (fun _ _ _ h => h) (by kernel_rfl) hS ?_
        refine rt_take (i := 37) (some 54) (.bool true) rfl rfl (by kernel_rfl) (by kernel_rfl) (by kernel_rfl) (fun _ _ _ h => h) (by kernel_rfl) hS (fun W _ => by kernel_rfl) ?_
        refine wpAnyH_done (by kernel_rfl) ?_ _
        try simp only [Act.put, List.setIfInBounds_toArray, List.set_cons_zero, List.set_cons_succ]
        replace HB := Lib.hid (HB.out.tr hS)
        have HR := Lib.hid (HN.out.2 (by rintro rfl; simp at hb2))
        clear hS HSI
        go_wp2
        go_ret
        exact ⟨ret_bool HR.out.symm, HB.out⟩
      | false =>
        obtain ⟨sm, hsm⟩ : ∃ b : Bool, decide (e.vars = f.vars) = b := ⟨_, rfl⟩
        rw [hsm] at HSI
        have HE : Hid (e = f ↔ sm = true) := Lib.hid (by
          have h1 : e.num = f.num := by simpa using hb1
          have h2 : e.fn = f.fn := by simpa using hb2
          rw [← hsm, decide_eq_true_iff]
          cases e; cases f
          simp_all)
        refine wp_region_held_drew (S := fun W => Bel WO W) (by kernel_rfl) ((Bel.rfl_ WO).dr) (fun hS => ?_)
        refine rt_take (i := 0) (some 17) (.slice (some ⟨ab, ao, none⟩) xs.length c) rfl rfl (by kernel_rfl) (by kernel_rfl) (by kernel_rfl) (fun _ _ _ h => h) (by kernel_rfl) hS (fun W _ => by kernel_rfl) ?_
        refine rt_take (i := 1) (some 18) (.int .i64 k) rfl rfl (by kernel_rfl) (by kernel_rfl) (by kernel_rfl) (fun _ _ _ h => h) (by kernel_rfl) hS (fun W _ => by kernel_rfl) ?_
        refine rt_take (i := 2) (some 19) (.pointer (some ⟨ab, ao + k * 3, none⟩)) rfl rfl (by kernel_rfl) (by kernel_rfl) (by kernel_rfl) (fun _ _ _ h => h) (by kernel_rfl) hS (fun W _ => by go_simp) ?_
        refine rt_take (i := 3) (some 20) (.pointer (some ⟨ab, ao + k * 3, none⟩)) rfl rfl (by kernel_rfl) (by kernel_rfl) (by kernel_rfl) (fun _ _ _ h => h) (by kernel_rfl) hS (fun W _ => by kernel_rfl) ?_
        refine rt_take (i := 4) (some 21) (.int .i64 e.num) rfl rfl (by kernel_rfl) (by kernel_rfl) (by kernel_rfl) (fun _ _ _ h => h) (by kernel_rfl) hS (fun W hb => rl_int rfl (by kernel_rfl) (hb.cell C10)) ?_
        refine rt_take (i := 5) (some 22) (.slice (some ⟨bb, bo, none⟩) ys.length d) rfl rfl (by kernel_rfl) (by kernel_rfl) (by kernel_rfl) (fun _ _ _ h => h) (by kernel_rfl) hS (fun W _ => by kernel_rfl) ?_
        refine rt_take (i := 6) (some 23) (.int .i64 k) rfl rfl (by kernel_rfl) (by kernel_rfl) (by kernel_rfl) (fun _ _ _ h => h) (by kernel_rfl) hS (fun W _ => by kernel_rfl) ?_
        refine rt_take (i := 7) (some 24) (.pointer (some ⟨bb, bo + k * 3, none⟩)) rfl rfl (by kernel_rfl) (by kernel_rfl) (by kernel_rfl) (fun _ _ _ h => h) (by kernel_rfl) hS (fun W _ => by go_simp) ?_
        refine rt_take (i := 8) (some 25) (.pointer (some ⟨bb, bo + k * 3, none⟩)) rfl rfl (by kernel_rfl) (by kernel_rfl) (by kernel_rfl) (fun _ _ _ h => h) (by kernel_rfl) hS (fun W _ => by kernel_rfl) ?_
        refine rt_take (i := 9) (some 26) (.int .i64 f.num) rfl rfl (by kernel_rfl) (by kernel_rfl) (by kernel_rfl) (fun _ _ _ h => h) (by kernel_rfl) hS (fun W hb => rl_int rfl (by kernel_rfl) (hb.cell C20)) ?_
        refine rt_take (i := 10) (some 27) (.bool false) rfl rfl (by kernel_rfl) (by kernel_rfl) (by kernel_rfl) (fun _ _ _ h => h) (by kernel_rfl) hS (fun W _ => rb_ne rfl (by kernel_rfl) (by kernel_rfl) hb1) ?_
        refine rt_take (i := 11) (some 28) (.bool false) rfl rfl (by kernel_rfl) (by kernel_rfl) (by kernel_rfl) (fun _ _ _ h => h) (by kernel_rfl) hS (fun W _ => by kernel_rfl) ?_
        refine rt_take (i := 12) (some 29) (.slice (some ⟨ab, ao, none⟩) xs.length c) rfl rfl (by kernel_rfl) (by kernel_rfl) (by kernel_rfl) (fun _ _ _ h => h) (by kernel_rfl) hS (fun W _ => by kernel_rfl) ?_
        refine rt_take (i := 13) (some 30) (.int .i64 k) rfl rfl (by kernel_rfl) (by kernel_rfl) (by kernel_rfl) (fun _ _ _ h => h) (by kernel_rfl) hS (fun W _ => by kernel_rfl) ?_
        refine rt_take (i := 14) (some 31) (.pointer (some ⟨ab, ao + k * 3, none⟩)) rfl rfl (by kernel_rfl) (by kernel_rfl) (by kernel_rfl) (fun _ _ _ h => h) (by kernel_rfl) hS (fun W _ => by go_simp) ?_
        refine rt_take (i := 15) (some 32) (.pointer (some ⟨ab, ao + k * 3 + 1, none⟩)) rfl rfl (by kernel_rfl) (by kernel_rfl) (by kernel_rfl) (fun _ _ _ h => h) (by kernel_rfl) hS (fun W _ => by kernel_rfl) ?_
        refine rt_take (i := 16) (some 33) (.int .i64 e.fn) rfl rfl (by kernel_rfl) (by kernel_rfl) (by kernel_rfl) (fun _ _ _ h => h) (by kernel_rfl) hS (fun W hb => rl_int rfl (by kernel_rfl) (hb.cell C11)) ?_
        refine rt_take (i := 17) (some 34) (.slice (some ⟨bb, bo, none⟩) ys.length d) rfl rfl (by kernel_rfl) (by kernel_rfl) (by kernel_rfl) (fun _ _ _ h => h) (by kernel_rfl) hS (fun W _ => by kernel_rfl) ?_
        refine rt_take (i := 18) (some 35) (.int .i64 k) rfl rfl (by kernel_rfl) (by kernel_rfl) (by kernel_rfl) (fun _ _ _ h => h) (by kernel_rfl) hS (fun W _ => by kernel_rfl) ?_
        refine rt_take (i := 19) (some 36) (.pointer (some ⟨bb, bo + k * 3, none⟩)) rfl rfl (by kernel_rfl) (by kernel_rfl) (by kernel_rfl) (fun _ _ _ h => h) (by kernel_rfl) hS (fun W _ => by go_simp) ?_
        refine rt_take (i := 20) (some 37) (.pointer (some ⟨bb, bo + k * 3 + 1, none⟩)) rfl rfl (by kernel_rfl) (by kernel_rfl) (by kernel_rfl) (fun _ _ _ h => h) (by kernel_rfl) hS (fun W _ => by kernel_rfl) ?_
        refine rt_take (i := 21) (some 38) (.int .i64 f.fn) rfl rfl (by kernel_rfl) (by kernel_rfl) (by kernel_rfl) (fun _ _ _ h => h) (by kernel_rfl) hS (fun W hb => rl_int rfl (by kernel_rfl) (hb.cell C21)) ?_
        refine rt_take (i := 22) (some 39) (.bool false) rfl rfl (by kernel_rfl) (by kernel_rfl) (by kernel_rfl) (fun _ _ _ h => h) (by kernel_rfl) hS (fun W _ => rb_ne rfl (by kernel_rfl) (by kernel_rfl) hb2) ?_
        refine rt_take (i := 23) (some 40) (.bool false) rfl rfl (by kernel_rfl) (by kernel_rfl) (by kernel_rfl) (fun _ _ _ h => h) (by kernel_rfl) hS (fun W _ => by kernel_rfl) ?_
        refine rt_take (i := 24) (some 41) (.bool false) rfl rfl (by kernel_rfl) (by kernel_rfl) (by kernel_rfl) (fun _ _ _ h => h) (by kernel_rfl) hS (fun W _ => by kernel_rfl) ?_
        refine rt_take (i := 25) (some 42) (.slice (some ⟨ab, ao, none⟩) xs.length c) rfl rfl (by kernel_rfl) (by kernel_rfl) (by kernel_rfl) (fun _ _ _ h => h) (by kernel_rfl) hS (fun W _ => by kernel_rfl) ?_
        refine rt_take (i := 26) (some 43) (.int .i64 k) rfl rfl (by kernel_rfl) (by kernel_rfl) (by kernel_rfl) (fun _ _ _ h => h) (by kernel_rfl) hS (fun W _ => by kernel_rfl) ?_
        refine rt_take (i := 27) (some 44) (.pointer (some ⟨ab, ao + k * 3, none⟩)) rfl rfl (by kernel_rfl) (by kernel_rfl) (by kernel_rfl) (fun _ _ _ h => h) (by kernel_rfl) hS (fun W _ => by go_simp) ?_
        refine rt_take (i := 28) (some 45) (.pointer (some ⟨ab, ao + k * 3 + 2, none⟩)) rfl rfl (by kernel_rfl) (by kernel_rfl) (by kernel_rfl) (fun _ _ _ h => h) (by kernel_rfl) hS (fun W _ => by kernel_rfl) ?_
        refine rt_take (i := 29) (some 46) (.slice A1 e.vars.length c1) rfl rfl (by kernel_rfl) (by kernel_rfl) (by kernel_rfl) (fun _ _ _ h => h) (by kernel_rfl) hS (fun W hb => rl_ints rfl (by kernel_rfl) (hb.cell C12)) ?_
        refine rt_take (i := 30) (some 47) (.slice (some ⟨bb, bo, none⟩) ys.length d) rfl rfl (by kernel_rfl) (by kernel_rfl) (by kernel_rfl) (fun _ _ _ h => h) (by kernel_rfl) hS (fun W _ => by kernel_rfl) ?_
        refine rt_take (i := 31) (some 48) (.int .i64 k) rfl rfl (by kernel_rfl) (by kernel_rfl) (by kernel_rfl) (fun _ _ _ h => h) (by kernel_rfl) hS (fun W _ => by kernel_rfl) ?_
        refine rt_take (i := 32) (some 49) (.pointer (some ⟨bb, bo + k * 3, none⟩)) rfl rfl (by kernel_rfl) (by kernel_rfl) (by kernel_rfl) (fun _ _ _ h => h) (by kernel_rfl) hS (fun W _ => by go_simp) ?_
        refine rt_take (i := 33) (some 50) (.pointer (some ⟨bb, bo + k * 3 + 2, none⟩)) rfl rfl (by kernel_rfl) (by kernel_rfl) (by kernel_rfl) (fun _ _ _ h => h) (by kernel_rfl) hS (fun W _ => by kernel_rfl) ?_
        refine rt_take (i := 34) (some 51) (.slice A2 f.vars.length c2) rfl rfl (by kernel_rfl) (by kernel_rfl) (by kernel_rfl) (fun _ _ _ h => h) (by kernel_rfl) hS (fun W hb => rl_ints rfl (by kernel_rfl) (hb.cell C22)) ?_
        refine rt_call (i := 35) (some 52) (by kernel_rfl) rfl rfl (by kernel_rfl) 84 #[.slice A1 e.vars.length c1, .slice A2 f.vars.length c2] (by kernel_rfl) (HSI.out _ (HB.out.tr hS)) ?_
        rintro x1 W9 ⟨rfl, hb⟩
        refine ⟨_, rfl, hS.tr hb, fun hS => ?_⟩
        refine rt_take (i := 36) (some 53) (.bool (!sm)) rfl rfl (by kernel_rfl) (by kernel_rfl) (by kernel_rfl) (fun _ _ _ h => h) (by kernel_rfl) hS (fun W _ => by kernel_rfl) ?_
        refine rt_take (i := 37) (some 54) (.bool (!sm)) rfl rfl (by kernel_rfl) (by kernel_rfl) (by kernel_rfl) (fun _ _ _ h => h) (by kernel_rfl) hS (fun W _ => by kernel_rfl) ?_
        refine wpAnyH_done (by kernel_rfl) ?_ _
        try simp only [Act.put, List.setIfInBounds_toArray, List.set_cons_zero, List.set_cons_succ]
        replace HB := Lib.hid (HB.out.tr hS)
        clear hS
        cases sm with
        | true =>
          have HR := Lib.hid (HN.out.1 (HE.out.2 rfl))
          clear HSI
          go_wp2
          go_roundw
          case rel => exact ⟨k + 1, by omega, by go_num, HR, HB⟩
          case measure => simp [intOf]; omega
        | false =>
          have HR := Lib.hid (HN.out.2 (fun h => by have := HE.out.1 h; cases this))
          clear HSI
          go_wp2
          go_ret
          exact ⟨ret_bool HR.out.symm, HB.out⟩
end Go.Proofs.Ytgkpplbomciehaa
