/- Holds, SpansOf, and the small query and trace: walked. Each lemma states its own conditions. -/
import Derived.Test.YtegknpffiaeohaaSpanP
import Derived.RangeFuncBox
import Derived.Laws.OwnMore
namespace Go.Proofs.Ytegknpffiaeohaa
open Go.RowKit

theorem Ask.err_zero {q : Ask} (h : q.err = 0) : q.chk = 0 := by
  unfold Ask.err at h
  split at h
  · cases h
  · exact h
/-- what is wrong with a query beside so many events -/
def holdErr (q : Ask) (n : Nat) : Int := if q.err = 0 then if 4000 < n then 2 else 0 else q.err
def holdL (q : Ask) (l : List Ev) : List Bool := if holdErr q l.length = 0 then q.holds l else []
theorem holdErr_zero {q : Ask} {n : Nat} (h : holdErr q n = 0) : q.chk = 0 ∧ n ≤ 4000 := by
  unfold holdErr at h
  split at h
  · split at h
    · cases h
    · exact ⟨Ask.err_zero ‹_›, by omega⟩
  · exact absurd h ‹_›
theorem holdL_length (q : Ask) (l : List Ev) : (holdL q l).length ≤ 4000 ∧ (holdErr q l.length = 0 → (holdL q l).length = l.length) := by
  unfold holdL
  split
  · rename_i h
    obtain ⟨h1, h2⟩ := holdErr_zero h
    have := Ask.holds_length l q h1
    exact ⟨by omega, fun _ => this⟩
  · exact ⟨by simp, fun h => absurd h ‹_›⟩

set_option maxRecDepth 20000 in
theorem holds_any (q : Ask) (val v : Value) (l : List Ev) (w : World) (h : AskV w q val) (hv : Sl evR w v l) (hl : ok64 l.length) :
    Calls Try.prog 29 #[val, v] w fun r w' => ∃ u, r = .returned (.tuple #[u, .int .i64 (holdErr q l.length)]) ∧ Bs w' w.heap.size u (holdL q l) ∧ Bel w w' := by
  have HC := Lib.hid (fun val W h => check_any q val W h)
  have HR : Hid (holdErr q l.length = 0 → ∀ (val v : Value) (w : World), AskV w q val → Sl evR w v l → Calls Try.prog 49 #[val, v] w fun r w' => ∃ v', r = .returned v' ∧ Bs w' w.heap.size v' (q.holds l) ∧ Bel w w') :=
    Lib.hid fun h => raw_any l (holdErr_zero h).2 q (holdErr_zero h).1
  have HT : Hid ((if q.err = 0 then if 4000 < l.length then (2 : Int) else 0 else q.err) = holdErr q l.length) := Lib.hid rfl
  have HL : Hid ((if holdErr q l.length = 0 then q.holds l else []) = holdL q l) := Lib.hid rfl
  generalize holdErr q l.length = T at *
  generalize holdL q l = TL at *
  generalize q.err = E at *
  have HH := Lib.hid h
  have HV := Lib.hid hv
  obtain ⟨v', rfl, hsl⟩ := h
  obtain ⟨A, c, rfl, -⟩ := hsl
  obtain ⟨LA, lc, rfl, -⟩ := hv
  unfold ok64 at hl
  go_enter Try.func29, Try.ntmps29
  go_wp2_with fail
  refine (HC.out _ _ (HH.out.keep ((Bel.rfl_ w).al _))).mono ?_
  rintro e w1 ⟨rfl, hb⟩
  have HB := Lib.hid (((Bel.rfl_ w).al _).tr hb)
  have HH1 := Lib.hid (HH.out.keep HB.out)
  have hq0 := (Blk.new w 37 #[.int .i64 q.kind, .int .i64 q.n, .slice A q.args.length c]).keep hb
  have z0 : w1.cell? ⟨w.heap.size, 0, none⟩ = some (.int .i64 q.kind) := hq0.cell rfl
  have z1 : w1.cell? ⟨w.heap.size, 1, none⟩ = some (.int .i64 q.n) := hq0.cell rfl
  have z2 : w1.cell? ⟨w.heap.size, 2, none⟩ = some (.slice A q.args.length c) := hq0.cell rfl
  clear hb hq0 HC
  by_cases hE : E = 0
  · rw [if_pos hE] at HT
    by_cases hn : 4000 < l.length
    · rw [if_pos hn] at HT
      have HTL : Hid (TL = []) := Lib.hid (by rw [← HL.out, ← HT.out, if_neg (by decide)])
      go_wp2
      go_ret2
      exact ⟨_, by rw [← HT.out]; rfl, by rw [HTL.out]; exact World.ownsRow_nil _ _ _ _, HB.out⟩
    · rw [if_neg hn] at HT
      have HTL : Hid (TL = q.holds l) := Lib.hid (by rw [← HL.out, if_pos HT.out.symm])
      go_wp2_with fail
      refine (HR.out HT.out.symm _ _ _ HH1.out (HV.out.keep HB.out)).mono ?_
      rintro r w2 ⟨v2, rfl, hs2, hb2⟩
      go_wp2
      go_ret2
      exact ⟨_, by rw [← HT.out]; rfl, by rw [HTL.out]; exact own_mono hs2 HB.out.size, HB.out.tr hb2⟩
  · rw [if_neg hE] at HT
    have HTL : Hid (TL = []) := Lib.hid (by rw [← HL.out, ← HT.out, if_neg hE])
    go_wp2
    go_ret2
    exact ⟨_, by rw [← HT.out]; rfl, by rw [HTL.out]; exact World.ownsRow_nil _ _ _ _, HB.out⟩

/-- pairs of places -/
def spanR : Rep (Nat × Nat) where
  size := 2
  R _ cs x := cs = [.int .i64 x.1, .int .i64 x.2]
  len h := by subst h; rfl
  keep _ h := h
def spCells (c : List (Nat × Nat)) : List Value := c.flatMap fun x => [.int .i64 x.1, .int .i64 x.2]
theorem spCells_snoc (c : List (Nat × Nat)) (x : Nat × Nat) : spCells (c ++ [x]) = spCells c ++ [.int .i64 x.1, .int .i64 x.2] := by
  unfold spCells
  rw [List.flatMap_append, List.flatMap_cons, List.flatMap_nil, List.append_nil]
theorem spCells_length (c : List (Nat × Nat)) : (spCells c).length = c.length * 2 := by
  induction c with
  | nil => rfl
  | cons x xs ih => unfold spCells at *; rw [List.flatMap_cons, List.length_append, ih, List.length_cons]; simp; omega
theorem spCells_get : ∀ (c : List (Nat × Nat)) (k : Nat) (x : Nat × Nat), c[k]? = some x → ((spCells c).drop (k * 2)).take 2 = [.int .i64 x.1, .int .i64 x.2]
  | [], k, x, h => by simp at h
  | y :: ys, 0, x, h => by
    simp only [List.getElem?_cons_zero, Option.some.injEq] at h
    subst h
    rfl
  | y :: ys, k + 1, x, h => by
    have := spCells_get ys k x (by simpa using h)
    rw [show (k + 1) * 2 = 2 + k * 2 by omega, ← List.drop_drop]
    exact this
theorem Sl.own_spans {w : World} {base : Nat} {e : TypeId} {v : Value} {n : Nat} {xs : List (Nat × Nat)} (h : w.ownsRow base e 2 v n (spCells xs)) (hn : n = xs.length) : Sl spanR w v xs :=
  Sl.own (r := spanR) h hn fun k x hx => spCells_get xs k x hx
theorem spanR.cells {w : World} {b o : Nat} {xs : List (Nat × Nat)} (h : ∀ k x, xs[k]? = some x → spanR.At w b (o + k * spanR.size) x) {k : Nat} {x : Nat × Nat} (hk : xs[k]? = some x) :
    w.cell? ⟨b, o + k * 2, none⟩ = some (.int .i64 x.1) ∧ w.cell? ⟨b, o + k * 2 + 1, none⟩ = some (.int .i64 x.2) := by
  obtain ⟨cs, hc, hcs⟩ := h k x hk
  have e : cs = [.int .i64 x.1, .int .i64 x.2] := hc
  subst e
  exact ⟨hcs 0 _ rfl, hcs 1 _ rfl⟩
theorem elSpan : Elem Try.prog 44 52 2 16 := Elem.mk_ (z := .agg #[.int .i64 0, .int .i64 0]) Try.underlying44 (by kernel_rfl) rfl (by decide)
theorem spCells_set (c : List (Nat × Nat)) (f t : Nat) : (spCells (c ++ [(f, t)])).set (c.length * 2 + 1) (.int .i64 ((t + 1 : Nat) : Int)) = spCells (c ++ [(f, t + 1)]) := by
  rw [spCells_snoc, spCells_snoc, List.set_append, if_neg (by rw [spCells_length]; omega), spCells_length, show c.length * 2 + 1 - c.length * 2 = 1 by omega]
  rfl

/-- a cell of a row of the call's own -/
theorem own_cell {w : World} {base : Nat} {e : TypeId} {size g n cap : Nat} {xs : List Value} (h : w.ownsRow base e size (.slice (some ⟨g, 0, none⟩) n cap) n xs) {i : Nat} {u : Value} (hi : xs[i]? = some u) : w.cell? ⟨g, i, none⟩ = some u ∧ w.frozen? ⟨g, i, none⟩ = false := by
  rcases h.2 with ⟨h0, _⟩ | ⟨g', cap', cur, hv, _, hg, _, _, _, ht⟩
  · cases h0
  · injection hv with hv
    injection hv with hv
    injection hv with hv
    subst hv
    refine ⟨?_, frozen_of_row w g i cur e hg⟩
    rw [cell_of_row w g i cur e (0, 0) hg]
    rw [← ht, List.getElem?_take] at hi
    split at hi
    · simpa using hi
    · cases hi

set_option maxRecDepth 20000 in
set_option maxHeartbeats 1000000 in
theorem spansOf_any (v : Value) (l : List Bool) (w : World) (h : Sl boolR w v l) (hl : l.length ≤ 4000) :
    Calls Try.prog 20 #[v] w fun r w' => ∃ u, r = .returned u ∧ Sl spanR w' u (spansL l) ∧ Bel w w' := by
  obtain ⟨A, lc, rfl, hc, hm, hA⟩ := h
  have HA := Lib.hid hA; clear hA hc hm
  go_enter Try.func20, Try.ntmps20
  go_wp2
  go_loopw [3, 4] (fun o i wr => ∃ (t n : Nat), i = .int .i64 t ∧ t ≤ l.length ∧ Hid (n = (spTo l t).length ∧ n ≤ t) ∧ Hid (wr.ownsRow w.heap.size 52 2 o n (spCells (spTo l t))) ∧ Hid (Bel w wr)) (fun _ i _ => l.length - (intOf i).toNat)
  case atStart => exact ⟨0, 0, rfl, by omega, Lib.hid ⟨rfl, Nat.le_refl _⟩, World.ownsRow_nil _ _ _ _, Bel.rfl_ w⟩
  case round =>
    obtain ⟨t, n, rfl, ht, HN, HO, HB⟩ := hrel
    by_cases hlt : t < l.length
    · obtain ⟨x, hx, ex⟩ := bg_get hlt
      obtain ⟨b, o, rfl, hA⟩ := HA.out (by omega)
      have z0 := HB.out.cell (boolR.cell hA hx)
      clear hx
      cases x with
      | false =>
        have HST : Hid (spTo l (t + 1) = spTo l t) := Lib.hid (by unfold spTo; rw [spSt]; rcases spSt l t with ⟨c, _ | f⟩ <;> simp [ex])
        clear hA
        go_wp2
        go_roundw
        case rel => exact ⟨t + 1, n, by go_num, by omega, (by unfold Hid; rw [HST.out]; exact ⟨HN.out.1, by have := HN.out.2; omega⟩), (by unfold Hid; rw [HST.out]; exact HO.out), HB⟩
        case measure => simp [intOf]; omega
      | true =>
        rcases hs : spSt l t with ⟨c, _ | f⟩
        · have HT0 : Hid (spTo l t = c) := Lib.hid (by unfold spTo; rw [hs]; simp)
          have HT1 : Hid (spTo l (t + 1) = c ++ [(t, t + 1)]) := Lib.hid (by unfold spTo; rw [spSt, hs]; simp [ex])
          rw [HT0.out] at HO HN
          have hnl : n = c.length := HN.out.1
          have HNT : Hid (n ≤ t) := Lib.hid HN.out.2
          subst hnl
          have hnb : c.length ≤ 4000 := by have := HNT.out; omega
          have HBZ : Hid (t = 0 ∨ ∃ s, t = s + 1 ∧ bg l s = false) := Lib.hid (by
            cases t with
            | zero => exact .inl rfl
            | succ s => exact .inr ⟨s, rfl, spSt_shut hs⟩)
          clear hs ex HN
          have HOA : Hid (∀ (W : World) (g cap : Nat), W.ownsRow w.heap.size 52 2 (.slice (some ⟨g, 0, none⟩) (c.length + 1) cap) (c.length + 1) (spCells c ++ [.int .i64 t, .int .i64 t]) → W.cell? ⟨g, c.length * 2 + 1, none⟩ = some (.int .i64 t) ∧ W.frozen? ⟨g, c.length * 2 + 1, none⟩ = false ∧ w.heap.size ≤ g ∧
              (W.setCell ⟨g, c.length * 2 + 1, none⟩ (.int .i64 ((t + 1 : Nat) : Int))).ownsRow w.heap.size 52 2 (.slice (some ⟨g, 0, none⟩) (c.length + 1) cap) (c.length + 1) (spCells (c ++ [(t, t + 1)]))) := Lib.hid fun W g cap h => by
            rw [show spCells c ++ [Value.int .i64 (t : Int), Value.int .i64 (t : Int)] = spCells (c ++ [(t, t)]) from (spCells_snoc c (t, t)).symm] at h
            have hcl := own_cell h (i := c.length * 2 + 1) (u := .int .i64 (t : Int)) (by rw [spCells_snoc, List.getElem?_append_right (by rw [spCells_length]; omega), spCells_length, show c.length * 2 + 1 - c.length * 2 = 1 by omega]; rfl)
            exact ⟨hcl.1, hcl.2, (h.lt g rfl).1, by rw [← spCells_set]; exact (h.stored _ _).1⟩
          rcases HBZ.out with e0 | ⟨s, e0, e1⟩
          · have HE0 := Lib.hid e0
            subst e0
            rw [Nat.add_zero] at z0
            clear hA HE0
            go_wp2_with (at_builtin; go_loud (refine wpl_app wr rfl (.tmp 26) (.tmp 30) 44 rfl w.heap.size elSpan u3 c.length _ rfl HO.out [.int .i64 ((0 : Nat) : Int), .int .i64 ((0 : Nat) : Int)] rfl rfl (by simp [Value.oneCell']) (by simp only [maxLen]; omega) (by omega) HB.out.size ?_); intro g cap w3 hown3 hg3 _; have hoa := HOA.out w3 g cap hown3; obtain ⟨c1, f1, hgl, ho3⟩ := hoa; have HGL := Lib.hid hgl; have HO4 := Lib.hid ho3; have HB3 := Lib.hid (Below.ofGrown HB.out HO.out hg3 (Nat.le_refl _) HB.out.size); clear hown3 hg3 hgl ho3)
            go_roundw
            case rel => exact ⟨0 + 1, c.length + 1, by go_num, by omega, (by unfold Hid; rw [HT1.out]; exact ⟨by simp, by have := HNT.out; omega⟩), (by unfold Hid; rw [HT1.out]; exact HO4.out), HB3.out.setCell HGL.out _⟩
            case measure => simp [intOf]; omega
          · subst e0
            have hd : ((s + 1 : Nat) : Int) - 1 = s := by omega
            obtain ⟨x1, hx1, ex1⟩ := bg_get (l := l) (i := s) (by omega)
            rw [e1] at ex1
            subst ex1
            have z1 := HB.out.cell (boolR.cell hA hx1)
            clear hA hx1 e1
            go_wp2_with (at_builtin; go_loud (refine wpl_app wr rfl (.tmp 26) (.tmp 30) 44 rfl w.heap.size elSpan u3 c.length _ rfl HO.out [.int .i64 ((s + 1 : Nat) : Int), .int .i64 ((s + 1 : Nat) : Int)] rfl rfl (by simp [Value.oneCell']) (by simp only [maxLen]; omega) (by omega) HB.out.size ?_); intro g cap w3 hown3 hg3 _; have hoa := HOA.out w3 g cap hown3; obtain ⟨c1, f1, hgl, ho3⟩ := hoa; have HGL := Lib.hid hgl; have HO4 := Lib.hid ho3; have HB3 := Lib.hid (Below.ofGrown HB.out HO.out hg3 (Nat.le_refl _) HB.out.size); clear hown3 hg3 hgl ho3)
            go_roundw
            case rel => exact ⟨(s + 1) + 1, c.length + 1, by go_num, by omega, (by unfold Hid; rw [HT1.out]; exact ⟨by simp, by have := HNT.out; omega⟩), (by unfold Hid; rw [HT1.out]; exact HO4.out), HB3.out.setCell HGL.out _⟩
            case measure => simp [intOf]; omega
        · have ho := spSt_open hs
          have HT0 : Hid (spTo l t = c ++ [(f, t)]) := Lib.hid (by unfold spTo; rw [hs])
          have HT1 : Hid (spTo l (t + 1) = c ++ [(f, t + 1)]) := Lib.hid (by unfold spTo; rw [spSt, hs]; simp [ex])
          rw [HT0.out] at HO HN
          have hnl : n = c.length + 1 := by have := HN.out.1; simpa using this
          have HNT : Hid (n ≤ t) := Lib.hid HN.out.2
          subst hnl
          have hnb : c.length ≤ 4000 := by have := HNT.out; omega
          obtain ⟨s, rfl⟩ : ∃ s, t = s + 1 := ⟨t - 1, by omega⟩
          have hbs : bg l s = true := by have := ho.2.1; rwa [Nat.add_sub_cancel] at this
          obtain ⟨x1, hx1, ex1⟩ := bg_get (l := l) (i := s) (by omega)
          rw [hbs] at ex1
          subst ex1
          have z1 := HB.out.cell (boolR.cell hA hx1)
          have hd : ((s + 1 : Nat) : Int) - 1 = s := by omega
          obtain ⟨g, cap, rfl⟩ := ownsRow_succ HO.out
          have hcl := own_cell HO.out (i := c.length * 2 + 1) (u := .int .i64 ((s + 1 : Nat) : Int)) (by rw [spCells_snoc, List.getElem?_append_right (by rw [spCells_length]; omega), spCells_length, show c.length * 2 + 1 - c.length * 2 = 1 by omega]; rfl)
          clear hx1 hs ho ex hbs hA
          go_wp2
          go_roundw
          case rel => exact ⟨s + 1 + 1, c.length + 1, by go_num, by omega, (by unfold Hid; rw [HT1.out]; exact ⟨by simp, by have := HNT.out; omega⟩), (by unfold Hid; rw [HT1.out, ← spCells_set]; exact (HO.out.stored _ _).1), HB.out.setCell (HO.out.lt g rfl).1 _⟩
          case measure => simp [intOf]; omega
    · obtain rfl : t = l.length := by omega
      go_wp2
      go_ret
      exact ⟨_, rfl, Sl.own_spans HO.out HN.out.1, HB.out⟩

end Go.Proofs.Ytegknpffiaeohaa
