/- The document's 'between'. No conditions. How many parts an expression of a program has: both counts walked; none at all. Steps of a region that draws its order, each said outright: what an operation yields is a fact for the kernel. Each lemma states its own conditions. -/
import Derived.Test.YtgkpplbomciehaaCdt01
import Derived.Test.YtgkpplbomciehaaChecked
import Derived.Test.YtgkpplbomciehaaCdt03
import Derived.Deep.RegionHeld3
namespace Go.Proofs.Ytgkpplbomciehaa
open Go.RowKit
theorem between_any (n a b : Int) (w : World) : Calls Try.prog 48 #[.int .i64 n, .int .i64 a, .int .i64 b] w fun r w' => r = .returned (.bool (decide (a ≤ n ∧ n ≤ b))) ∧ w = w' := by
  go_enter Try.func48, Try.ntmps48
  go_wp2
  all_goals go_ret
  all_goals refine ⟨ret_bool ?_, rfl⟩
  all_goals simp_all
  all_goals omega
set_option maxRecDepth 20000 in
theorem sizeP_step (k n : Int) (args : List PE) (IH : ∀ x ∈ args, ∀ (m : Int) (val : Value) (W : World), 0 ≤ m → m ≤ 15 → PEV W x val →
      Calls Try.prog 110 #[val, .int .i64 m] W fun r w' => r = .returned (.int .i64 (x.size m)) ∧ Bel W w')
    (m : Int) (val : Value) (w : World) (h0 : 0 ≤ m) (h15 : m ≤ 15) (h : PEV w (.mk k n args) val) :
    Calls Try.prog 110 #[val, .int .i64 m] w fun r w' => r = .returned (.int .i64 ((PE.mk k n args).size m)) ∧ Bel w w' := by
  obtain ⟨v, rfl, A, c, rfl, hc, hm, hA⟩ := h
  have HI := Lib.hid IH; clear IH
  have HA := Lib.hid hA; clear hA
  have HT : Hid (sizeP args 1 m = (PE.mk k n args).size m) := Lib.hid (by rw [PE.size])
  generalize (PE.mk k n args).size m = T at HT ⊢
  have hlm : args.length ≤ 9223372036854775807 := by have := hm.1; simp only [maxLen] at this; simp only [PE.args] at hc; omega
  simp only [PE.kind, PE.n, PE.args] at HA hc ⊢
  clear hm
  go_enter Try.func110, Try.ntmps110
  go_wp2
  go_loopw [5, 11] (fun a i wr => ∃ (j : Nat) (x : Int), a = .int .i64 x ∧ i = .int .i64 j ∧ j ≤ args.length ∧ 1 ≤ x ∧ x ≤ m + 1 ∧ Hid (sizeP (args.drop j) x m = T) ∧ Hid (Bel w wr)) (fun _ i _ => args.length - (intOf i).toNat)
  case atStart => exact ⟨0, 1, rfl, rfl, by omega, by omega, by omega, by simpa using HT, (Bel.rfl_ w).al _⟩
  case round =>
    obtain ⟨j, x, rfl, rfl, hj, hx1, hx2, HS, HB⟩ := hrel
    clear HT
    by_cases hlt : j < args.length
    · obtain ⟨q, hq⟩ : ∃ e, args[j]? = some e := ⟨_, List.getElem?_eq_getElem hlt⟩
      obtain ⟨b, o, rfl, hA⟩ := HA.out (by omega)
      obtain ⟨B, mm, cc, hs, y0, y1, y2⟩ := peR.cells hA hq
      have y0 := HB.out.cell y0
      have y1 := HB.out.cell y1
      have y2 := HB.out.cell y2
      have HQ := Lib.hid hq; have HSL := Lib.hid (hs.keep HB.out); clear hq hs hA HA
      have HQV : Hid (∀ W, Bel wr W → PEV W q (.agg #[.int .i64 q.kind, .int .i64 q.n, .slice B mm cc])) := Lib.hid fun W hb => ⟨_, rfl, HSL.out.keep hb⟩
      generalize q.kind = qk at *
      generalize q.n = qn at *
      by_cases hmx : m < x
      · have HR : Hid (x = T) := Lib.hid (by have := HS.out; rw [sizeP_drop HQ.out, if_pos hmx] at this; exact this)
        go_wp2
        go_ret
        exact ⟨by rw [HR.out]; rfl, HB.out.al _⟩
      · have HR : Hid (sizeP (args.drop (j + 1)) (x + q.size (m - x)) m = T) := Lib.hid (by have := HS.out; rw [sizeP_drop HQ.out, if_neg hmx] at this; exact this)
        have hle := PE.size_le q (m - x) (by omega)
        go_wp2_with fail
        refine (HI.out q (List.mem_of_getElem? HQ.out) (m - x) _ _ (by omega) (by omega) (HQV.out _ ((Bel.rfl_ _).al _))).mono ?_
        rintro e w' ⟨rfl, hb⟩
        have HB' := Lib.hid ((HB.out.al _).tr hb); clear hb
        generalize q.size (m - x) = z at hle HR
        go_wp2
        go_roundw
        case rel => exact ⟨j + 1, x + z, by go_num, by go_num, by omega, by omega, by omega, HR, HB'⟩
        case measure => simp [intOf]; omega
    · have HR : Hid (x = T) := Lib.hid (by have := HS.out; rw [sizeP_end (by omega)] at this; exact this)
      go_wp2
      go_ret
      exact ⟨by rw [HR.out]; rfl, HB.out⟩
theorem sizeP_any : ∀ (q : PE) (m : Int) (val : Value) (w : World), 0 ≤ m → m ≤ 15 → PEV w q val →
    Calls Try.prog 110 #[val, .int .i64 m] w fun r w' => r = .returned (.int .i64 (q.size m)) ∧ Bel w w' :=
  PE.ind fun k n args ih m val w h0 h15 h => sizeP_step k n args ih m val w h0 h15 h
set_option maxRecDepth 20000 in
theorem partsP_step (k n : Int) (args : List PE) (IH : ∀ x ∈ args, ∀ (m : Int) (val : Value) (W : World), 0 ≤ m → m ≤ 15 → PEV W x val →
      Calls Try.prog 105 #[val, .int .i64 m] W fun r w' => r = .returned (.int .i64 (x.size m)) ∧ Bel W w')
    (m : Int) (val : Value) (w : World) (h0 : 0 ≤ m) (h15 : m ≤ 15) (h : PEV w (.mk k n args) val) :
    Calls Try.prog 105 #[val, .int .i64 m] w fun r w' => r = .returned (.int .i64 ((PE.mk k n args).size m)) ∧ Bel w w' := by
  obtain ⟨v, rfl, A, c, rfl, hc, hm, hA⟩ := h
  have HI := Lib.hid IH; clear IH
  have HA := Lib.hid hA; clear hA
  have HT : Hid (sizeP args 1 m = (PE.mk k n args).size m) := Lib.hid (by rw [PE.size])
  generalize (PE.mk k n args).size m = T at HT ⊢
  have hlm : args.length ≤ 9223372036854775807 := by have := hm.1; simp only [maxLen] at this; simp only [PE.args] at hc; omega
  simp only [PE.kind, PE.n, PE.args] at HA hc ⊢
  clear hm
  go_enter Try.func105, Try.ntmps105
  go_wp2
  go_loopw [5, 6] (fun a i wr => ∃ (j : Nat) (x : Int), a = .int .i64 x ∧ i = .int .i64 j ∧ j ≤ args.length ∧ 1 ≤ x ∧ x ≤ m + 1 ∧ Hid (sizeP (args.drop j) x m = T) ∧ Hid (Bel (w.alloc (.cells #[.int .i64 k, .int .i64 n, .slice A args.length c] 47)) wr)) (fun _ i _ => args.length - (intOf i).toNat)
  case atStart => exact ⟨0, 1, rfl, rfl, by omega, by omega, by omega, by simpa using HT, Bel.rfl_ _⟩
  case round =>
    obtain ⟨j, x, rfl, rfl, hj, hx1, hx2, HS, HB⟩ := hrel
    clear HT
    have z2 : wr.cell? ⟨w.heap.size, 2, none⟩ = some (.slice A args.length c) := ((Blk.new w 47 #[.int .i64 k, .int .i64 n, .slice A args.length c]).keep HB.out).cell rfl
    have HB1 := Lib.hid (((Bel.rfl_ w).al _).tr HB.out)
    by_cases hlt : j < args.length
    · obtain ⟨q, hq⟩ : ∃ e, args[j]? = some e := ⟨_, List.getElem?_eq_getElem hlt⟩
      obtain ⟨b, o, rfl, hA⟩ := HA.out (by omega)
      obtain ⟨B, mm, cc, hs, y0, y1, y2⟩ := peR.cells hA hq
      have y0 := HB1.out.cell y0
      have y1 := HB1.out.cell y1
      have y2 := HB1.out.cell y2
      have HQ := Lib.hid hq; have HSL := Lib.hid (hs.keep HB1.out); clear hq hs hA HA
      have HQV : Hid (∀ W, Bel wr W → PEV W q (.agg #[.int .i64 q.kind, .int .i64 q.n, .slice B mm cc])) := Lib.hid fun W hb => ⟨_, rfl, HSL.out.keep hb⟩
      generalize q.kind = qk at *
      generalize q.n = qn at *
      by_cases hmx : m < x
      · have HR : Hid (x = T) := Lib.hid (by have := HS.out; rw [sizeP_drop HQ.out, if_pos hmx] at this; exact this)
        go_wp2
        go_ret
        exact ⟨by rw [HR.out]; rfl, HB1.out⟩
      · have HR : Hid (sizeP (args.drop (j + 1)) (x + q.size (m - x)) m = T) := Lib.hid (by have := HS.out; rw [sizeP_drop HQ.out, if_neg hmx] at this; exact this)
        have hle := PE.size_le q (m - x) (by omega)
        have hxm : x ≤ m := by omega
        go_wp2_with fail
        refine (HI.out q (List.mem_of_getElem? HQ.out) (m - x) _ _ (by omega) (by omega) (HQV.out _ (Bel.rfl_ _))).mono ?_
        rintro e w' ⟨rfl, hb⟩
        have HB' := Lib.hid (HB.out.tr hb); clear hb
        generalize q.size (m - x) = z at hle HR
        go_wp2
        go_roundw
        case rel => exact ⟨j + 1, x + z, by go_num, by go_num, by omega, by omega, by omega, HR, HB'⟩
        case measure => simp [intOf]; omega
    · have HR : Hid (x = T) := Lib.hid (by have := HS.out; rw [sizeP_end (by omega)] at this; exact this)
      go_wp2
      go_ret
      exact ⟨by rw [HR.out]; rfl, HB1.out⟩
theorem partsP_any : ∀ (q : PE) (m : Int) (val : Value) (w : World), 0 ≤ m → m ≤ 15 → PEV w q val →
    Calls Try.prog 105 #[val, .int .i64 m] w fun r w' => r = .returned (.int .i64 (q.size m)) ∧ Bel w w' :=
  PE.ind fun k n args ih m val w h0 h15 h => partsP_step k n args ih m val w h0 h15 h
section
variable {P : Program} {ops : Array Oper} {Q : Exit → Act → World → Prop} {md : Region.Mode} {S : World → Prop} {fuel : Nat} {listed : Array Bool} {a : Act} {w : World}
/-- an operation that yields its value wherever S holds is taken first -/
theorem rg_take {i : Nat} {o : Oper} {v : Value} (hi : ops[i]? = some o) (hs : Region.noSelect ops = true) (hf : Region.free md ops listed i = true) (hr : (Region.ready md ops listed).contains i = true)
    (hQ : ∀ c a w, Q (.panic c) (a.put o.dst v) w → Q (.panic c) a w) (hw : Region.wanted o (yielded ops a.tmps) = true) (hS : S w) (hrun : ∀ W, S W → (execOp a.eval o).run P W = .ok (.value v) W)
    (h : wpAnyH P md ops Q S fuel (listed.setIfInBounds i true) (a.put o.dst v) w) : wpAnyH P md ops Q S (fuel + 1) listed a w :=
  wpAnyH_take hi hs hf hr hQ (Or.inl ⟨hw, hrun⟩) hS h
/-- one operation may come up: a call, by its contract -/
theorem rg_call {i : Nat} {o : Oper} (hr : Region.ready md ops listed = [i]) (hi : ops[i]? = some o) (hw : Region.wanted o (yielded ops a.tmps) = true) (f : FuncId) (args : Array Value) (hrun : (execOp a.eval o).run P w = .ok (.enter f args) w) {R : Ending → World → Prop} (hc : Calls P f args w R)
    (h : ∀ e w', R e w' → ∃ v, e = .returned v ∧ S w' ∧ (S w' → wpAnyH P md ops Q S fuel (listed.setIfInBounds i true) (a.put o.dst v) w')) : wpAnyH P md ops Q S (fuel + 1) listed a w := by
  refine wpAnyH_ready hr (by simp) (AllReadyH.cons hi (fun K hK => ?_) AllReadyH.nil)
  rw [if_pos hw]
  unfold Oper.wp
  rw [hrun, Oper.upon_enter]
  refine hc.mono fun e w' hh => ?_
  obtain ⟨v, rfl, hS, hW⟩ := h e w' hh
  exact hK.out _ _ hS hW
/-- one operation may come up: it yields a value and leaves a world -/
theorem rg_one {i : Nat} {o : Oper} (hr : Region.ready md ops listed = [i]) (hi : ops[i]? = some o) (hw : Region.wanted o (yielded ops a.tmps) = true) (v : Value) (w' : World) (hrun : (execOp a.eval o).run P w = .ok (.value v) w') (hS : S w')
    (h : S w' → wpAnyH P md ops Q S fuel (listed.setIfInBounds i true) (a.put o.dst v) w') : wpAnyH P md ops Q S (fuel + 1) listed a w := by
  refine wpAnyH_ready hr (by simp) (AllReadyH.cons hi (fun K hK => ?_) AllReadyH.nil)
  rw [if_pos hw]
  unfold Oper.wp
  rw [hrun, Oper.upon_value]
  exact hK.out _ _ hS h
/-- the same, the slot that is written said outright -/
theorem rt_take {i : Nat} (d : Option Tmp) {o : Oper} (v : Value) (hi : ops[i]? = some o) (hd : o.dst = d) (hs : Region.noSelect ops = true) (hf : Region.free md ops listed i = true) (hr : (Region.ready md ops listed).contains i = true)
    (hQ : ∀ c a w, Q (.panic c) (a.put d v) w → Q (.panic c) a w) (hw : Region.wanted o (yielded ops a.tmps) = true) (hS : S w) (hrun : ∀ W, S W → (execOp a.eval o).run P W = .ok (.value v) W)
    (h : wpAnyH P md ops Q S fuel (listed.setIfInBounds i true) (a.put d v) w) : wpAnyH P md ops Q S (fuel + 1) listed a w := by
  subst hd
  exact rg_take hi hs hf hr hQ hw hS hrun h
theorem rt_call {i : Nat} (d : Option Tmp) {o : Oper} (hr : Region.ready md ops listed = [i]) (hi : ops[i]? = some o) (hd : o.dst = d) (hw : Region.wanted o (yielded ops a.tmps) = true) (f : FuncId) (args : Array Value) (hrun : (execOp a.eval o).run P w = .ok (.enter f args) w) {R : Ending → World → Prop} (hc : Calls P f args w R)
    (h : ∀ e w', R e w' → ∃ v, e = .returned v ∧ S w' ∧ (S w' → wpAnyH P md ops Q S fuel (listed.setIfInBounds i true) (a.put d v) w')) : wpAnyH P md ops Q S (fuel + 1) listed a w := by
  subst hd
  exact rg_call hr hi hw f args hrun hc h
theorem rt_one {i : Nat} (d : Option Tmp) {o : Oper} (hr : Region.ready md ops listed = [i]) (hi : ops[i]? = some o) (hd : o.dst = d) (hw : Region.wanted o (yielded ops a.tmps) = true) (v : Value) (w' : World) (hrun : (execOp a.eval o).run P w = .ok (.value v) w') (hS : S w')
    (h : S w' → wpAnyH P md ops Q S fuel (listed.setIfInBounds i true) (a.put d v) w') : wpAnyH P md ops Q S (fuel + 1) listed a w := by
  subst hd
  exact rg_one hr hi hw v w' hrun hS h
end
section
variable {P : Program} {ops : Array Oper} {Q : Exit → Act → World → Prop} {rest : List Oper} {o : Oper} {a : Act} {w : World}
/-- a region in the text's order: an operation that yields -/
theorem lw_do (d : Option Tmp) (v : Value) (hd : o.dst = d) (hw : Region.wanted o (yielded ops a.tmps) = true) (hrun : (execOp a.eval o).run P w = .ok (.value v) w) (h : wpList P ops Q rest (a.put d v) w) : wpList P ops Q (o :: rest) a w :=
  wpList_step fun K hK => by
    subst hd
    rw [if_pos hw]
    unfold Oper.wp
    rw [hrun, Oper.upon_value]
    exact hK _ _ h
/-- a call, by its contract -/
theorem lw_call (d : Option Tmp) (hd : o.dst = d) (hw : Region.wanted o (yielded ops a.tmps) = true) (f : FuncId) (args : Array Value) (hrun : (execOp a.eval o).run P w = .ok (.enter f args) w) {R : Ending → World → Prop} (hc : Calls P f args w R)
    (h : ∀ e w', R e w' → ∃ v, e = .returned v ∧ wpList P ops Q rest (a.put d v) w') : wpList P ops Q (o :: rest) a w :=
  wpList_step fun K hK => by
    subst hd
    rw [if_pos hw]
    unfold Oper.wp
    rw [hrun, Oper.upon_enter]
    refine hc.mono fun e w' hh => ?_
    obtain ⟨v, rfl, hW⟩ := h e w' hh
    exact hK _ _ hW
end
end Go.Proofs.Ytgkpplbomciehaa
