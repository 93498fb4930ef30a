/- What must be in any case of queries: walked. No conditions but the library's table. -/
import Derived.Test.YtegknpffiaeohaaDoorSamQ
import Derived.Test.YtegknpffiaeohaaDoorPrsI
import Derived.Test.YtegknpffiaeohaaDoorShoC
namespace Go.Proofs.YtegknpffiaeohaaDoor
open Go.RowKit

def onceB : ByteArray := ⟨#[111, 110, 99, 101, 32, 112, 114, 105, 110, 116]⟩
theorem print_once : printB onceQ = onceB := by
  have h : onceQ.err = 0 := by decide +kernel
  have ht : onceQ.text = onceB := by decide +kernel
  unfold printB
  rw [if_pos h, ht]
theorem parse_once : parseQ onceB = (onceQ, 0, 0) := by kernel_rfl
theorem bools_blk {w : World} {G : Nat} {t : TypeId} {cs : Array Value} {xs : List Bool} (h : Blk w G t cs) (hx : cs.toList = xs.map Value.bool) (hl : xs.length ≤ 1000) : Sl boolR w (.slice (some ⟨G, 0, none⟩) xs.length xs.length) xs := by
  refine ⟨_, xs.length, rfl, Nat.le_refl _, ⟨by simp only [maxLen]; omega, fun h => by cases h⟩, fun _ => ⟨G, 0, rfl, fun k x hk => ⟨_, rfl, fun j u hu => h.cell ?_⟩⟩⟩
  cases j with
  | zero =>
    rw [← Array.getElem?_toList, hx, List.getElem?_map]
    simp only [boolR, Nat.zero_add, Nat.mul_one, Nat.add_zero, hk]
    simpa using hu
  | succ j => simp at hu

theorem parse_onceC (w : World) : Calls Tryd.prog 13 #[.string onceB] w fun r w' => ∃ QA qc, r = .returned (.tuple #[.agg #[.int .i64 11, .int .i64 0, .slice QA 1 qc], .int .i64 0, .int .i64 0]) ∧ AskV w' onceQ (.agg #[.int .i64 11, .int .i64 0, .slice QA 1 qc]) ∧ Bel w w' :=
  (parseQ_any onceB w (by decide)).mono fun _ _ h => by
    rw [parse_once] at h
    obtain ⟨QA, qc, h1, h2, h3⟩ := h
    exact ⟨QA, qc, h1, ⟨_, rfl, low_up h2⟩, h3⟩
set_option maxRecDepth 20000 in
set_option maxHeartbeats 1000000 in
theorem queryBegun_any (w : World) (ht : Tab w) : Calls Tryd.prog 11 #[] w fun r w' => r = .returned (.bool true) ∧ Bel w w' := by
  have HT := Lib.hid ht
  clear ht
  go_enter Tryd.func11, Tryd.ntmps11
  go_wp2_with fail
  refine (once_any _).mono ?_
  rintro r w1 ⟨val1, rfl, hv1, hb1⟩
  have HB := Lib.hid hb1
  have HV1 := Lib.hid hv1
  clear hb1 hv1
  go_wp2_with fail
  refine (print_any onceQ _ _ HV1.out (HT.out.keep HB.out)).mono ?_
  rintro r w2 ⟨rfl, hb2⟩
  replace HB := Lib.hid (HB.out.tr hb2)
  rw [print_once, show onceQ.err = 0 from by decide +kernel]
  clear hb2 HV1
  go_wp2_with fail
  refine (parse_onceC _).mono ?_
  rintro r w3 ⟨QA, qc, rfl, hqv, hb3⟩
  replace HB := Lib.hid (HB.out.tr hb3)
  have hba := (Bel.rfl_ w3).al (.cells #[.int .i64 11, .int .i64 0, .slice QA 1 qc] 24)
  have HQV := Lib.hid (hqv.keep hba)
  have HQB := Lib.hid (Blk.new w3 24 #[.int .i64 11, .int .i64 0, .slice QA 1 qc])
  replace HB := Lib.hid (HB.out.tr hba)
  clear hb3 hqv hba
  go_upto_region 3 with fail
  generalize w3.alloc (.cells #[.int .i64 11, .int .i64 0, .slice QA 1 qc] 24) = W3 at *
  generalize w3.heap.size = P at *
  go_wp2_with fail
  refine (once_any _).mono ?_
  rintro r w4 ⟨val4, rfl, hv4, hb4⟩
  have HV4 := Lib.hid hv4
  replace HB := Lib.hid (HB.out.tr hb4)
  replace HQV := Lib.hid (HQV.out.keep hb4)
  replace HQB := Lib.hid (HQB.out.keep hb4)
  clear hv4 hb4
  go_wp2_with fail
  refine (smallTrace_any _).mono ?_
  rintro r w5 ⟨u5, rfl, hs5, hb5⟩
  have HS5 := Lib.hid hs5
  replace HB := Lib.hid (HB.out.tr hb5)
  replace HQV := Lib.hid (HQV.out.keep hb5)
  replace HQB := Lib.hid (HQB.out.keep hb5)
  replace HV4 := Lib.hid (HV4.out.keep hb5)
  clear hs5 hb5
  go_wp2_with fail
  refine (holds_any onceQ _ _ smallT _ HV4.out HS5.out (by unfold ok64; decide)).mono ?_
  rw [onceErr, onceL]
  rintro r w6 ⟨u6, rfl, hs6, hb6⟩
  have hsl := hs6.sl
  obtain ⟨HA, hc, rfl, -⟩ := id hsl
  have HS6 := Lib.hid hsl
  replace HB := Lib.hid (HB.out.tr hb6)
  replace HQV := Lib.hid (HQV.out.keep hb6)
  replace HQB := Lib.hid (HQB.out.keep hb6)
  clear hs6 hb6 hsl HS5 HV4
  go_upto_region 4 with fail
  have HCQ := Lib.hid (fun W (hb : Bel w6 W) => And.intro ((HQB.out.keep hb).cell (i := 0) (v := .int .i64 11) rfl) (And.intro ((HQB.out.keep hb).cell (i := 1) (v := .int .i64 0) rfl) ((HQB.out.keep hb).cell (i := 2) (v := .slice QA 1 qc) rfl)))
  have HCK := Lib.hid (fun val W (h : AskV W onceQ val) => (check_any onceQ val W h).mono (R' := fun r w' => r = .returned (.int .i64 0) ∧ Bel W w') fun _ _ h => ⟨h.1.trans (by rw [show onceQ.err = 0 from by decide +kernel]), h.2⟩)
  have HSA := Lib.hid (fun va vb W h1 h2 => sameAsk_any onceQ va vb W h1 h2)
  have HSB := Lib.hid (fun va vb W h1 h2 => sameBools_any [false, false, false, false, true, true] va vb W h1 h2 (by decide))
  have hlit : (onceB.toList == [111, 110, 99, 101, 32, 112, 114, 105, 110, 116]) = true := lit_true rfl
  have hbX := Lib.hid (Bel.rfl_ w6)
  have HBF := HB
  have HPV := HQV
  obtain ⟨c0, c1, c2⟩ := HCQ.out _ hbX.out
  clear HB HQB HT
  refine wp_region_any (by kernel_rfl) ?_
  try (change wpAny _ _ _ _ _ _ _ (World.drew _))
  refine wpAny_ready (rs := [0]) (by kernel_rfl) (by simp) ?_
  refine AllReady.cons (o := { dst := some 24, op := Op.call { callee := Callee.value (Operand.func 27), args := #[], argTypes := #[] }, type := 24, pos := "ask.go:205", after := #[], guard := none }) rfl (fun K hK => ?_) AllReady.nil
  (go_simp; go_at_call 27; refine (once_any _).mono ?_; rintro r w7 ⟨val7, rfl, hv7, hb7⟩; (first | (have HBL := Lib.hid (Blk.keep (Blk.new _ 4 #[.bool false, .bool false, .bool false, .bool false, .bool true, .bool true]) (Bel.tr (by repeat (first | exact Bel.rfl_ _ | apply Bel.dr)) hb7))) | (have HBL := Lib.hid (Blk.keep HBL.out (Bel.tr (by repeat (first | exact Bel.rfl_ _ | apply Bel.dr | apply Bel.al)) hb7))) | skip); have hbw : Bel w6 w7 := Bel.tr (by repeat (first | exact Bel.rfl_ _ | exact hbX.out | apply Bel.dr | apply Bel.al)) hb7; obtain ⟨c0, c1, c2⟩ := HCQ.out _ hbw; have hbX := Lib.hid hbw; have HV7 := Lib.hid hv7; clear hb7 hbw hv7)
  try go_simp
  try (refine hK _ _ ?_; clear hK K)
  refine wpAny_ready (rs := [1]) (by kernel_rfl) (by simp) ?_
  refine AllReady.cons (o := { dst := some 25, op := Op.call { callee := Callee.value (Operand.func 12), args := #[Operand.tmp 24], argTypes := #[24] }, type := 25, pos := "ask.go:205", after := #[{ on := 0, ground := Ground.data }, { on := 0, ground := Ground.chain }], guard := none }) rfl (fun K hK => ?_) AllReady.nil
  (go_simp; go_at_call 12; refine (HCK.out _ _ (HV7.out.keep ?_)).mono ?_; (repeat (first | exact Bel.rfl_ _ | apply Bel.dr | apply Bel.al)); rintro r w7 ⟨rfl, hb7⟩; (first | (have HBL := Lib.hid (Blk.keep (Blk.new _ 4 #[.bool false, .bool false, .bool false, .bool false, .bool true, .bool true]) (Bel.tr (by repeat (first | exact Bel.rfl_ _ | apply Bel.dr)) hb7))) | (have HBL := Lib.hid (Blk.keep HBL.out (Bel.tr (by repeat (first | exact Bel.rfl_ _ | apply Bel.dr | apply Bel.al)) hb7))) | skip); have hbw : Bel w6 w7 := Bel.tr (by repeat (first | exact Bel.rfl_ _ | exact hbX.out | apply Bel.dr | apply Bel.al)) hb7; obtain ⟨c0, c1, c2⟩ := HCQ.out _ hbw; have hbX := Lib.hid hbw; clear hb7 hbw)
  try go_simp
  try (refine hK _ _ ?_; clear hK K)
  refine wpAny_take (i := 2) (v := .bool true) rfl (by kernel_rfl) (by kernel_rfl) (by kernel_rfl) (fun _ _ _ h => h) (Or.inl ⟨by kernel_rfl, fun w => by kernel_rfl⟩) ?_
  refine wpAny_take (i := 3) (v := .bool true) rfl (by kernel_rfl) (by kernel_rfl) (by kernel_rfl) (fun _ _ _ h => h) (Or.inl ⟨by kernel_rfl, fun w => by kernel_rfl⟩) ?_
  refine wpAny_take (i := 4) (v := .int .i64 0) rfl (by kernel_rfl) (by kernel_rfl) (by kernel_rfl) (fun _ _ _ h => h) (Or.inl ⟨by kernel_rfl, fun w => by kernel_rfl⟩) ?_
  refine wpAny_take (i := 5) (v := .bool true) rfl (by kernel_rfl) (by kernel_rfl) (by kernel_rfl) (fun _ _ _ h => h) (Or.inl ⟨by kernel_rfl, fun w => by kernel_rfl⟩) ?_
  refine wpAny_take (i := 6) (v := .bool true) rfl (by kernel_rfl) (by kernel_rfl) (by kernel_rfl) (fun _ _ _ h => h) (Or.inl ⟨by kernel_rfl, fun w => by kernel_rfl⟩) ?_
  refine wpAny_take (i := 7) (v := .bool true) rfl (by kernel_rfl) (by kernel_rfl) (by kernel_rfl) (fun _ _ _ h => h) (Or.inl ⟨by kernel_rfl, fun w => by kernel_rfl⟩) ?_
  refine wpAny_take (i := 8) (v := .int .i64 0) rfl (by kernel_rfl) (by kernel_rfl) (by kernel_rfl) (fun _ _ _ h => h) (Or.inl ⟨by kernel_rfl, fun w => by kernel_rfl⟩) ?_
  refine wpAny_take (i := 9) (v := .bool true) rfl (by kernel_rfl) (by kernel_rfl) (by kernel_rfl) (fun _ _ _ h => h) (Or.inl ⟨by kernel_rfl, fun w => by kernel_rfl⟩) ?_
  refine wpAny_take (i := 10) (v := .bool true) rfl (by kernel_rfl) (by kernel_rfl) (by kernel_rfl) (fun _ _ _ h => h) (Or.inl ⟨by kernel_rfl, fun w => by kernel_rfl⟩) ?_
  refine wpAny_take (i := 11) (v := .bool true) rfl (by kernel_rfl) (by kernel_rfl) (by kernel_rfl) (fun _ _ _ h => h) (Or.inl ⟨by kernel_rfl, fun w => by kernel_rfl⟩) ?_
  refine wpAny_take (i := 12) (v := .int .i64 0) rfl (by kernel_rfl) (by kernel_rfl) (by kernel_rfl) (fun _ _ _ h => h) (Or.inl ⟨by kernel_rfl, fun w => by kernel_rfl⟩) ?_
  refine wpAny_take (i := 13) (v := .bool true) rfl (by kernel_rfl) (by kernel_rfl) (by kernel_rfl) (fun _ _ _ h => h) (Or.inl ⟨by kernel_rfl, fun w => by kernel_rfl⟩) ?_
  refine wpAny_take (i := 14) (v := .bool true) rfl (by kernel_rfl) (by kernel_rfl) (by kernel_rfl) (fun _ _ _ h => h) (Or.inl ⟨by kernel_rfl, fun w => by kernel_rfl⟩) ?_
  refine wpAny_take (i := 15) (v := .bool true) rfl (by kernel_rfl) (by kernel_rfl) (by kernel_rfl) (fun _ _ _ h => h) (Or.inl ⟨by kernel_rfl, fun w => by kernel_rfl⟩) ?_
  refine wpAny_take (i := 16) (v := .string onceB) rfl (by kernel_rfl) (by kernel_rfl) (by kernel_rfl) (fun _ _ _ h => h) (Or.inl ⟨by kernel_rfl, fun w => by kernel_rfl⟩) ?_
  refine wpAny_take (i := 17) (v := .bool true) rfl (by kernel_rfl) (by kernel_rfl) (by kernel_rfl) (fun _ _ _ h => h) (Or.inl ⟨by kernel_rfl, fun w => by kernel_rfl⟩) ?_
  refine wpAny_take (i := 18) (v := .bool true) rfl (by kernel_rfl) (by kernel_rfl) (by kernel_rfl) (fun _ _ _ h => h) (Or.inl ⟨by kernel_rfl, fun w => by kernel_rfl⟩) ?_
  refine wpAny_take (i := 19) (v := .bool true) rfl (by kernel_rfl) (by kernel_rfl) (by kernel_rfl) (fun _ _ _ h => h) (Or.inl ⟨by kernel_rfl, fun w => by kernel_rfl⟩) ?_
  refine wpAny_ready (rs := [20, 21]) (by kernel_rfl) (by simp) ?_
  refine AllReady.cons (o := { dst := some 44, op := Op.load 24 (Operand.tmp 3), type := 24, pos := "ask.go:205", after := #[{ on := 19, ground := Ground.guard }], guard := some (19, true) }) rfl (fun K hK => ?_) (AllReady.cons (o := { dst := some 45, op := Op.call { callee := Callee.value (Operand.func 27), args := #[], argTypes := #[] }, type := 24, pos := "ask.go:205", after := #[{ on := 19, ground := Ground.chain }, { on := 19, ground := Ground.guard }], guard := some (19, true) }) rfl (fun K hK => ?_) AllReady.nil)
  · go_simp
    try go_simp
    try (refine hK _ _ ?_; clear hK K)
    refine wpAny_ready (rs := [21]) (by kernel_rfl) (by simp) ?_
    refine AllReady.cons (o := { dst := some 45, op := Op.call { callee := Callee.value (Operand.func 27), args := #[], argTypes := #[] }, type := 24, pos := "ask.go:205", after := #[{ on := 19, ground := Ground.chain }, { on := 19, ground := Ground.guard }], guard := some (19, true) }) rfl (fun K hK => ?_) AllReady.nil
    (go_simp; go_at_call 27; refine (once_any _).mono ?_; rintro r w7 ⟨val7, rfl, hv7, hb7⟩; (first | (have HBL := Lib.hid (Blk.keep (Blk.new _ 4 #[.bool false, .bool false, .bool false, .bool false, .bool true, .bool true]) (Bel.tr (by repeat (first | exact Bel.rfl_ _ | apply Bel.dr)) hb7))) | (have HBL := Lib.hid (Blk.keep HBL.out (Bel.tr (by repeat (first | exact Bel.rfl_ _ | apply Bel.dr | apply Bel.al)) hb7))) | skip); have hbw : Bel w6 w7 := Bel.tr (by repeat (first | exact Bel.rfl_ _ | exact hbX.out | apply Bel.dr | apply Bel.al)) hb7; obtain ⟨c0, c1, c2⟩ := HCQ.out _ hbw; have hbX := Lib.hid hbw; have HV7 := Lib.hid hv7; clear hb7 hbw hv7)
    try go_simp
    try (refine hK _ _ ?_; clear hK K)
    refine wpAny_ready (rs := [22]) (by kernel_rfl) (by simp) ?_
    refine AllReady.cons (o := { dst := some 46, op := Op.call { callee := Callee.value (Operand.func 15), args := #[Operand.tmp 44, Operand.tmp 45], argTypes := #[24, 24] }, type := 4, pos := "ask.go:205", after := #[{ on := 20, ground := Ground.data }, { on := 21, ground := Ground.data }, { on := 21, ground := Ground.chain }, { on := 19, ground := Ground.guard }], guard := some (19, true) }) rfl (fun K hK => ?_) AllReady.nil
    (go_simp; go_at_call 15; refine (HSA.out _ _ _ (HPV.out.keep ?_) (HV7.out.keep ?_)).mono ?_; (focus (repeat (first | exact Bel.rfl_ _ | exact hbX.out | apply Bel.dr | apply Bel.al))); (repeat (first | exact Bel.rfl_ _ | apply Bel.dr | apply Bel.al)); rintro r w7 ⟨rfl, hb7⟩; (first | (have HBL := Lib.hid (Blk.keep (Blk.new _ 4 #[.bool false, .bool false, .bool false, .bool false, .bool true, .bool true]) (Bel.tr (by repeat (first | exact Bel.rfl_ _ | apply Bel.dr)) hb7))) | (have HBL := Lib.hid (Blk.keep HBL.out (Bel.tr (by repeat (first | exact Bel.rfl_ _ | apply Bel.dr | apply Bel.al)) hb7))) | skip); have hbw : Bel w6 w7 := Bel.tr (by repeat (first | exact Bel.rfl_ _ | exact hbX.out | apply Bel.dr | apply Bel.al)) hb7; obtain ⟨c0, c1, c2⟩ := HCQ.out _ hbw; have hbX := Lib.hid hbw; clear hb7 hbw)
    try go_simp
    try (refine hK _ _ ?_; clear hK K)
    refine wpAny_take (i := 23) (v := .bool true) rfl (by kernel_rfl) (by kernel_rfl) (by kernel_rfl) (fun _ _ _ h => h) (Or.inl ⟨by kernel_rfl, fun w => by kernel_rfl⟩) ?_
    refine wpAny_take (i := 24) (v := .bool true) rfl (by kernel_rfl) (by kernel_rfl) (by kernel_rfl) (fun _ _ _ h => h) (Or.inl ⟨by kernel_rfl, fun w => by kernel_rfl⟩) ?_
    refine wpAny_take (i := 25) (v := .slice HA 6 hc) rfl (by kernel_rfl) (by kernel_rfl) (by kernel_rfl) (fun _ _ _ h => h) (Or.inl ⟨by kernel_rfl, fun w => by kernel_rfl⟩) ?_
    refine wpAny_ready (rs := [26]) (by kernel_rfl) (by simp) ?_
    refine AllReady.cons (o := { dst := some 50, op := Op.buildSlice 38 6 #[(0, Operand.const (Value.bool false)), (1, Operand.const (Value.bool false)), (2, Operand.const (Value.bool false)), (3, Operand.const (Value.bool false)), (4, Operand.const (Value.bool true)), (5, Operand.const (Value.bool true))], type := 38, pos := "ask.go:205", after := #[{ on := 24, ground := Ground.guard }], guard := some (24, true) }) rfl (fun K hK => ?_) AllReady.nil
    go_simp
    try go_simp
    try (refine hK _ _ ?_; clear hK K)
    refine wpAny_ready (rs := [27]) (by kernel_rfl) (by simp) ?_
    refine AllReady.cons (o := { dst := some 51, op := Op.call { callee := Callee.value (Operand.func 18), args := #[Operand.tmp 49, Operand.tmp 50], argTypes := #[38, 38] }, type := 4, pos := "ask.go:205", after := #[{ on := 25, ground := Ground.data }, { on := 26, ground := Ground.data }, { on := 24, ground := Ground.chain }, { on := 24, ground := Ground.guard }], guard := some (24, true) }) rfl (fun K hK => ?_) AllReady.nil
    (go_simp; go_at_call 18; refine (HSB.out _ _ _ (HS6.out.keep ?_) ?_).mono ?_; (focus (repeat (first | exact Bel.rfl_ _ | exact hbX.out | apply Bel.dr | apply Bel.al))); (focus (first | exact bools_blk (xs := [false, false, false, false, true, true]) (Blk.keep HBL.out (by repeat (first | exact Bel.rfl_ _ | apply Bel.dr | apply Bel.al))) rfl (by decide) | exact bools_blk (xs := [false, false, false, false, true, true]) (Blk.keep (Blk.new _ 4 #[.bool false, .bool false, .bool false, .bool false, .bool true, .bool true]) (by repeat (first | exact Bel.rfl_ _ | apply Bel.dr | apply Bel.al))) rfl (by decide))); rintro r w7 ⟨rfl, hb7⟩; have hbw : Bel w6 w7 := Bel.tr (by repeat (first | exact Bel.rfl_ _ | exact hbX.out | apply Bel.dr | apply Bel.al)) hb7; have hbX := Lib.hid hbw; clear hb7 hbw)
    try go_simp
    try (refine hK _ _ ?_; clear hK K)
    refine wpAny_take (i := 28) (v := .bool true) rfl (by kernel_rfl) (by kernel_rfl) (by kernel_rfl) (fun _ _ _ h => h) (Or.inl ⟨by kernel_rfl, fun w => by kernel_rfl⟩) ?_
    refine wpAny_take (i := 29) (v := .bool true) rfl (by kernel_rfl) (by kernel_rfl) (by kernel_rfl) (fun _ _ _ h => h) (Or.inl ⟨by kernel_rfl, fun w => by kernel_rfl⟩) ?_
    refine wpAny_done (by kernel_rfl) ?_ _
    go_simp
    go_wp2
    go_ret
    exact ⟨rfl, HBF.out.tr hbX.out⟩
  · (go_simp; go_at_call 27; refine (once_any _).mono ?_; rintro r w7 ⟨val7, rfl, hv7, hb7⟩; (first | (have HBL := Lib.hid (Blk.keep (Blk.new _ 4 #[.bool false, .bool false, .bool false, .bool false, .bool true, .bool true]) (Bel.tr (by repeat (first | exact Bel.rfl_ _ | apply Bel.dr)) hb7))) | (have HBL := Lib.hid (Blk.keep HBL.out (Bel.tr (by repeat (first | exact Bel.rfl_ _ | apply Bel.dr | apply Bel.al)) hb7))) | skip); have hbw : Bel w6 w7 := Bel.tr (by repeat (first | exact Bel.rfl_ _ | exact hbX.out | apply Bel.dr | apply Bel.al)) hb7; obtain ⟨c0, c1, c2⟩ := HCQ.out _ hbw; have hbX := Lib.hid hbw; have HV7 := Lib.hid hv7; clear hb7 hbw hv7)
    try go_simp
    try (refine hK _ _ ?_; clear hK K)
    refine wpAny_ready (rs := [20]) (by kernel_rfl) (by simp) ?_
    refine AllReady.cons (o := { dst := some 44, op := Op.load 24 (Operand.tmp 3), type := 24, pos := "ask.go:205", after := #[{ on := 19, ground := Ground.guard }], guard := some (19, true) }) rfl (fun K hK => ?_) AllReady.nil
    go_simp
    try go_simp
    try (refine hK _ _ ?_; clear hK K)
    refine wpAny_ready (rs := [22]) (by kernel_rfl) (by simp) ?_
    refine AllReady.cons (o := { dst := some 46, op := Op.call { callee := Callee.value (Operand.func 15), args := #[Operand.tmp 44, Operand.tmp 45], argTypes := #[24, 24] }, type := 4, pos := "ask.go:205", after := #[{ on := 20, ground := Ground.data }, { on := 21, ground := Ground.data }, { on := 21, ground := Ground.chain }, { on := 19, ground := Ground.guard }], guard := some (19, true) }) rfl (fun K hK => ?_) AllReady.nil
    (go_simp; go_at_call 15; refine (HSA.out _ _ _ (HPV.out.keep ?_) (HV7.out.keep ?_)).mono ?_; (focus (repeat (first | exact Bel.rfl_ _ | exact hbX.out | apply Bel.dr | apply Bel.al))); (repeat (first | exact Bel.rfl_ _ | apply Bel.dr | apply Bel.al)); rintro r w7 ⟨rfl, hb7⟩; (first | (have HBL := Lib.hid (Blk.keep (Blk.new _ 4 #[.bool false, .bool false, .bool false, .bool false, .bool true, .bool true]) (Bel.tr (by repeat (first | exact Bel.rfl_ _ | apply Bel.dr)) hb7))) | (have HBL := Lib.hid (Blk.keep HBL.out (Bel.tr (by repeat (first | exact Bel.rfl_ _ | apply Bel.dr | apply Bel.al)) hb7))) | skip); have hbw : Bel w6 w7 := Bel.tr (by repeat (first | exact Bel.rfl_ _ | exact hbX.out | apply Bel.dr | apply Bel.al)) hb7; obtain ⟨c0, c1, c2⟩ := HCQ.out _ hbw; have hbX := Lib.hid hbw; clear hb7 hbw)
    try go_simp
    try (refine hK _ _ ?_; clear hK K)
    refine wpAny_take (i := 23) (v := .bool true) rfl (by kernel_rfl) (by kernel_rfl) (by kernel_rfl) (fun _ _ _ h => h) (Or.inl ⟨by kernel_rfl, fun w => by kernel_rfl⟩) ?_
    refine wpAny_take (i := 24) (v := .bool true) rfl (by kernel_rfl) (by kernel_rfl) (by kernel_rfl) (fun _ _ _ h => h) (Or.inl ⟨by kernel_rfl, fun w => by kernel_rfl⟩) ?_
    refine wpAny_take (i := 25) (v := .slice HA 6 hc) rfl (by kernel_rfl) (by kernel_rfl) (by kernel_rfl) (fun _ _ _ h => h) (Or.inl ⟨by kernel_rfl, fun w => by kernel_rfl⟩) ?_
    refine wpAny_ready (rs := [26]) (by kernel_rfl) (by simp) ?_
    refine AllReady.cons (o := { dst := some 50, op := Op.buildSlice 38 6 #[(0, Operand.const (Value.bool false)), (1, Operand.const (Value.bool false)), (2, Operand.const (Value.bool false)), (3, Operand.const (Value.bool false)), (4, Operand.const (Value.bool true)), (5, Operand.const (Value.bool true))], type := 38, pos := "ask.go:205", after := #[{ on := 24, ground := Ground.guard }], guard := some (24, true) }) rfl (fun K hK => ?_) AllReady.nil
    go_simp
    try go_simp
    try (refine hK _ _ ?_; clear hK K)
    refine wpAny_ready (rs := [27]) (by kernel_rfl) (by simp) ?_
    refine AllReady.cons (o := { dst := some 51, op := Op.call { callee := Callee.value (Operand.func 18), args := #[Operand.tmp 49, Operand.tmp 50], argTypes := #[38, 38] }, type := 4, pos := "ask.go:205", after := #[{ on := 25, ground := Ground.data }, { on := 26, ground := Ground.data }, { on := 24, ground := Ground.chain }, { on := 24, ground := Ground.guard }], guard := some (24, true) }) rfl (fun K hK => ?_) AllReady.nil
    (go_simp; go_at_call 18; refine (HSB.out _ _ _ (HS6.out.keep ?_) ?_).mono ?_; (focus (repeat (first | exact Bel.rfl_ _ | exact hbX.out | apply Bel.dr | apply Bel.al))); (focus (first | exact bools_blk (xs := [false, false, false, false, true, true]) (Blk.keep HBL.out (by repeat (first | exact Bel.rfl_ _ | apply Bel.dr | apply Bel.al))) rfl (by decide) | exact bools_blk (xs := [false, false, false, false, true, true]) (Blk.keep (Blk.new _ 4 #[.bool false, .bool false, .bool false, .bool false, .bool true, .bool true]) (by repeat (first | exact Bel.rfl_ _ | apply Bel.dr | apply Bel.al))) rfl (by decide))); rintro r w7 ⟨rfl, hb7⟩; have hbw : Bel w6 w7 := Bel.tr (by repeat (first | exact Bel.rfl_ _ | exact hbX.out | apply Bel.dr | apply Bel.al)) hb7; have hbX := Lib.hid hbw; clear hb7 hbw)
    try go_simp
    try (refine hK _ _ ?_; clear hK K)
    refine wpAny_take (i := 28) (v := .bool true) rfl (by kernel_rfl) (by kernel_rfl) (by kernel_rfl) (fun _ _ _ h => h) (Or.inl ⟨by kernel_rfl, fun w => by kernel_rfl⟩) ?_
    refine wpAny_take (i := 29) (v := .bool true) rfl (by kernel_rfl) (by kernel_rfl) (by kernel_rfl) (fun _ _ _ h => h) (Or.inl ⟨by kernel_rfl, fun w => by kernel_rfl⟩) ?_
    refine wpAny_done (by kernel_rfl) ?_ _
    go_simp
    go_wp2
    go_ret
    exact ⟨rfl, HBF.out.tr hbX.out⟩
end Go.Proofs.YtegknpffiaeohaaDoor
