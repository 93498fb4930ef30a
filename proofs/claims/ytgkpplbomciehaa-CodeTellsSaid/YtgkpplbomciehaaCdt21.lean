/- What an expression is worth, by the program: walked. A number comes in: walked. What the machine makes of a call, and of its end. A call: walked. The numbers of the functions' first commands, by the program: walked. A raw trace: walked. What a trace tells of frames, in plain words: events replayed. The small program and its trace: walked. What must be in any case of traces: walked. TraceMore: walked. Numbers of a run, and what two of them make, by the document: walked. What an expression is worth, by the document: walked. Whether two lists of frames are one: the references' loops hand back just that. Each lemma states its own conditions. -/
import Derived.Test.YtgkpplbomciehaaCdt20
import Derived.Laws.MakeOwn
import Derived.Test.YtgkpplbomciehaaCdt04
import Derived.Test.YtgkpplbomciehaaCdt01
import Derived.Outline
import Derived.Deep.QuietTactic
import Derived.BigQuiet
import Derived.Laws.StructEq
import Derived.WalkLawsBesides
import Derived.WalkSpells
import Derived.OwnWalk
import Derived.Test.YtgkpplbomciehaaCdt09
import Derived.Test.YtgkpplbomciehaaRows
namespace Go.Proofs.Ytgkpplbomciehaa
open Go.RowKit
theorem vars_cell {W : World} {A : Option Addr} {n c : Nat} {l : List Int} (h : Sl intR W (.slice A n c) l) {j : Nat} {x : Int} (hx : l[j]? = some x) : ∃ b o, A = some ⟨b, o, none⟩ ∧ W.cell? ⟨b, o + j, none⟩ = some (.int .i64 x) := by
  obtain ⟨b, o, rfl, hA⟩ := h.lies (by have := (List.getElem?_eq_some_iff.1 hx).1; omega)
  exact ⟨b, o, rfl, intR.cell hA hx⟩
theorem getD_of {α : Type} {l : List α} {i : Nat} {x d : α} (h : l[i]? = some x) : l.getD i d = x := by rw [List.getD_eq_getElem?_getD, h]; rfl
abbrev CMT : TypeId := 120
theorem take_snoc {α : Type} {l : List α} {j : Nat} {x : α} (h : l[j]? = some x) : l.take (j + 1) = l.take j ++ [x] := by
  rw [List.take_add_one, h]; rfl
abbrev FNT : TypeId := 78
def firsts (ps : List PF) (n : Nat) : List Int := (List.range n).map (firstC ps)
theorem firsts_succ (ps : List PF) (n : Nat) : firsts ps (n + 1) = firsts ps n ++ [firstC ps n] := by unfold firsts; rw [List.range_succ, List.map_append]; rfl
theorem firsts_len (ps : List PF) (n : Nat) : (firsts ps n).length = n := by unfold firsts; simp
theorem firsts_at (ps : List PF) {i n : Nat} (h : i < n) : (firsts ps n)[i]? = some (firstC ps i) := by unfold firsts; rw [List.getElem?_map, List.getElem?_range h]; rfl
theorem firstC_succ {ps : List PF} {j : Nat} {g : PF} (h : ps[j]? = some g) : firstC ps (j + 1) = firstC ps j + cntP g.cmds := by
  unfold firstC
  rw [take_snoc h, List.map_append, List.sum_append]
  simp
set_option maxRecDepth 20000 in
set_option maxHeartbeats 8000000 in
theorem first_any (ps : List PF) (hp : Prog ps) (v : Value) (w : World) (h : Sl pfR w v ps) :
    Calls Try.prog 99 #[.agg #[v]] w fun r w' => ∃ u, r = .returned u ∧ w'.ownsRow w.heap.size INT 1 u ps.length ((firsts ps ps.length).map (Value.int .i64)) ∧ Bel w w' := by
  have HSL := Lib.hid h
  have HPR := Lib.hid hp
  have h6 := hp.six
  obtain ⟨A, c, rfl, hll⟩ := sl_lit h
  have HB1 : Hid (Bel w (w.alloc (.cells #[.slice A ps.length c] 40))) := Lib.hid ((Bel.rfl_ w).al _)
  have HO0 : Hid ((w.alloc (.cells #[.slice A ps.length c] 40)).ownsRow w.heap.size INT 1 (.slice none 0 0) 0 ((firsts ps 0).map (Value.int .i64))) := Lib.hid (World.ownsRow_nil _ _ _ _)
  clear h hp
  go_enter Try.func99, Try.ntmps99
  go_wp2
  generalize hW1 : w.alloc (.cells #[.slice A ps.length c] 40) = W1 at *
  clear hW1
  go_loopw [3, 4, 10] (fun v n i wr => ∃ j : Nat, i = .int .i64 j ∧ n = .int .i64 (firstC ps j) ∧ j ≤ ps.length ∧ Hid (wr.ownsRow w.heap.size INT 1 v j ((firsts ps j).map (Value.int .i64))) ∧ Hid (Bel w wr)) (fun _ _ i _ => ps.length - (intOf i).toNat)
  case atStart => exact ⟨0, rfl, rfl, Nat.zero_le _, HO0, HB1⟩
  case round =>
    obtain ⟨j, rfl, rfl, hj, HO, HB⟩ := hrel
    obtain ⟨WO, hWO⟩ : ∃ W, W = wr := ⟨_, rfl⟩
    subst hWO
    clear HO0 HB1
    by_cases hlt : j < ps.length
    rotate_left
    · have hdd : decide ((j : Int) < ps.length) = false := decide_eq_false (by omega)
      have hjl : j = ps.length := by omega
      subst hjl
      go_wp2
      go_ret
      exact ⟨_, rfl, HO.out, HB.out⟩
    have hdd : decide ((j : Int) < ps.length) = true := decide_eq_true (by omega)
    obtain ⟨g, hg⟩ : ∃ g, ps[j]? = some g := ⟨_, List.getElem?_eq_getElem hlt⟩
    obtain ⟨b, o, fcs, rfl, hfc, hfa⟩ := HSL.out.elem hg
    have HF : Hid (PFR w g fcs) := Lib.hid hfc
    have HFA := Lib.hid (hfa.keep HB.out)
    have HCM := Lib.hid (HPR.out.cmds hg)
    have HFS := Lib.hid (firstC_succ hg)
    have hn0 : 0 ≤ firstC ps j := HCM.out.1
    have hn1 : firstC ps j ≤ 40 := by have := HCM.out.2.1; omega
    have i0 : (0 : Int) ≤ j := by omega
    have i1 : (j : Int) < ps.length := by omega
    clear hfc hfa hg
    go_upto_region 6 with (refine copyPF (.tmp 12) (.tmp 6) (.tmp 13) rfl rfl rfl rfl rfl rfl b (o + j * 6) (by exact rfl) fcs HFA.out HF.out (by exact rfl) (by exact rfl) ?_)
    have HB2 := Lib.hid (HB.out.al (.cells fcs.toArray FNT))
    have HK := Lib.hid (Blk.new WO FNT fcs.toArray)
    have HO2 := Lib.hid (((Bel.rfl_ WO).al (.cells fcs.toArray FNT)).own HO.out)
    obtain ⟨vz, vc, vr, hq, -, hsc, -⟩ := HF.out
    obtain ⟨Ac, cc, rfl, hlc⟩ := sl_lit hsc
    have HSC := Lib.hid hsc
    have HC2 : Hid (fcs.toArray[2]? = some (.slice Ac g.cmds.length cc)) := Lib.hid (by rw [hq]; rfl)
    clear hsc hq HFA HF
    generalize hW2 : WO.alloc _ = W2 at *
    clear hW2
    generalize WO.heap.size = K at *
    have HJL : Hid ((firsts ps j).length = j) := Lib.hid (firsts_len ps j)
    go_wp2_with (at_builtin; go_loud (refine wpl_app W2 rfl (.tmp 14) (.tmp 16) 23 rfl w.heap.size elI u3 j _ rfl HO2.out [.int .i64 (firstC ps j)] rfl rfl (by simp [Value.oneCell']) (by simp only [maxLen]; omega) (by omega) HB2.out.size ?_); intro g2 cap w4 hown4 hg4 _; have HO4 := Lib.hid hown4; have HG4 := Lib.hid hg4; have c2 := (HK.out.grown hg4 (HK.out.ne_own HO2.out (by decide))).cell HC2.out; clear hown4 hg4)
    have HB4 : Hid (Bel w w4) := Lib.hid (Below.grown HB2.out HG4.out HB2.out.size (fun k hk => (HO2.out.lt k hk).1))
    refine (many_any g.cmds _ _ (HSC.out.keep HB4.out) HCM.out.2.2.1 (by have := HCM.out.2.1; omega)).mono ?_
    rintro y w5 ⟨rfl, hb5⟩
    have HB5 := Lib.hid (HB4.out.tr hb5)
    have HO5 := Lib.hid (hb5.own HO4.out)
    have hct : cntP g.cmds ≤ 1000 := by have := HCM.out.2.1; omega
    clear hb5 c2
    go_wp2
    go_roundw
    case rel =>
      refine ⟨j + 1, by go_num, ?_, by omega, Lib.hid ?_, HB5⟩
      · rw [HFS.out]
      · rw [firsts_succ, List.map_append]
        exact HO5.out
    case measure => simp [intOf]; omega
abbrev PGT : TypeId := 40
section
variable {o : Oper} {ρ : Operand → Value} {W : World} {x : Operand} {b f : Nat} {v : Value}
theorem rl_pg {A : Option Addr} {n c : Nat} (ho : o.op = .load PGT x) (hx : ρ x = .pointer (some ⟨b, f, none⟩)) (hc : W.cell? ⟨b, f, none⟩ = some (.slice A n c)) : (execOp ρ o).run Try.prog W = .ok (.value (.agg #[.slice A n c])) W := by
  simp [execOp, ho, hx, hc, go_sem]
end
/-- a frame, as it is told -/
structure Fm where
  num : Int
  fn : Int
  vars : List (List Int)
/-- a whole block read as a slice -/
theorem Sl.row {α : Type} {r : Rep α} {w : World} {g : Nat} {t : TypeId} {cs : Array Value} (h : Blk w g t cs) (xs : List α) (hs : cs.size = xs.length * r.size) (hm : xs.length ≤ maxLen)
    (hR : ∀ k x, xs[k]? = some x → r.R w ((cs.toList.drop (k * r.size)).take r.size) x) : Sl r w (.slice (some ⟨g, 0, none⟩) xs.length xs.length) xs := by
  refine Sl.own (base := 0) (e := t) (cells := cs.toList) ⟨by rw [Array.length_toList]; exact hs, .inr ⟨g, xs.length, cs, rfl, Nat.zero_le _, h, Nat.le_refl _, hm, hs, ?_⟩⟩ rfl hR
  rw [List.take_of_length_le]
  rw [Array.length_toList]
  exact Nat.le_of_eq hs
def noE : PE := .mk 0 0 []
def smallPs : List PF := [⟨0, [0], [.mk 4 0 0 noE noE [] [] [], .mk 5 0 0 noE (.mk 2 0 []) [] [] []], noE⟩]
theorem small_sl {W : World} {b1 b2 b3 : Nat} (h1 : Blk W b1 INT #[.int .i64 0]) (h2 : Blk W b2 CMT #[.int .i64 4, .int .i64 0, .int .i64 0, .int .i64 0, .int .i64 0, .slice none 0 0, .int .i64 0, .int .i64 0, .slice none 0 0, .slice none 0 0, .slice none 0 0, .slice none 0 0, .int .i64 5, .int .i64 0, .int .i64 0, .int .i64 0, .int .i64 0, .slice none 0 0, .int .i64 2, .int .i64 0, .slice none 0 0, .slice none 0 0, .slice none 0 0, .slice none 0 0])
    (h3 : Blk W b3 FNT #[.int .i64 0, .slice (some ⟨b1, 0, none⟩) 1 1, .slice (some ⟨b2, 0, none⟩) 2 2, .int .i64 0, .int .i64 0, .slice none 0 0]) : Sl pfR W (.slice (some ⟨b3, 0, none⟩) 1 1) smallPs := by
  have n1 : Sl peR W (.slice none 0 0) [] := Sl.nil_ _ _
  have n2 : Sl pcR W (.slice none 0 0) [] := Sl.nil_ _ _
  refine Sl.row h3 smallPs rfl (by decide) fun k x hx => ?_
  have hk : k = 0 := by have := (List.getElem?_eq_some_iff.1 hx).1; simp [smallPs] at this; exact this
  subst hk
  obtain rfl := Option.some.inj hx
  refine ⟨.slice (some ⟨b1, 0, none⟩) 1 1, .slice (some ⟨b2, 0, none⟩) 2 2, .slice none 0 0, rfl, ?_, ?_, n1⟩
  · exact Sl.row (r := intR) h1 [0] rfl (by decide) fun k x hx => by
      have hk : k = 0 := by have := (List.getElem?_eq_some_iff.1 hx).1; simp at this; exact this
      subst hk
      obtain rfl := Option.some.inj hx
      rfl
  · refine Sl.row (r := pcR) h2 [.mk 4 0 0 noE noE [] [] [], .mk 5 0 0 noE (.mk 2 0 []) [] [] []] rfl (by decide) fun k x hx => ?_
    have hk : k = 0 ∨ k = 1 := by have := (List.getElem?_eq_some_iff.1 hx).1; simp at this; omega
    rcases hk with rfl | rfl
    · obtain rfl := Option.some.inj hx
      exact PCR.shut (i := noE) (e := noE) n1 n1 n1 n2 n2
    · obtain rfl := Option.some.inj hx
      exact PCR.shut (i := noE) (e := .mk 2 0 []) n1 n1 n1 n2 n2
set_option maxRecDepth 20000 in
set_option maxHeartbeats 4000000 in
theorem small_any (w : World) : Calls Try.prog 58 #[] w fun r w' => ∃ v, r = .returned (.agg #[v]) ∧ Sl pfR w' v smallPs ∧ Bel w w' := by
  go_enter Try.func58, Try.ntmps58
  go_wp2
  generalize hW0 : w.alloc (.cells #[.slice (some ⟨w.heap.size + 1 + 1 + 1, 0, none⟩) 1 1] PGT) = W0 at *
  have k0 : Blk W0 w.heap.size PGT #[.slice (some ⟨w.heap.size + 1 + 1 + 1, 0, none⟩) 1 1] := by rw [← hW0]; exact Blk.new _ _ _
  have s0 : W0.heap.size = w.heap.size + 1 := by rw [← hW0]; exact alloc_size _ _
  have b0 : Bel w W0 := by rw [← hW0]; exact (Bel.rfl_ w).al _
  generalize hW1 : W0.alloc (.cells #[.int .i64 0] INT) = W1 at *
  have k1 : Blk W1 (w.heap.size + 1) INT #[.int .i64 0] := by rw [← hW1, ← s0]; exact Blk.new _ _ _
  have s1 : W1.heap.size = w.heap.size + 1 + 1 := by rw [← hW1, alloc_size, s0]
  have b1 : Bel W0 W1 := by rw [← hW1]; exact (Bel.rfl_ W0).al _
  generalize hW2 : W1.alloc (.cells #[.int .i64 4, .int .i64 0, .int .i64 0, .int .i64 0, .int .i64 0, .slice none 0 0, .int .i64 0, .int .i64 0, .slice none 0 0, .slice none 0 0, .slice none 0 0, .slice none 0 0, .int .i64 5, .int .i64 0, .int .i64 0, .int .i64 0, .int .i64 0, .slice none 0 0, .int .i64 2, .int .i64 0, .slice none 0 0, .slice none 0 0, .slice none 0 0, .slice none 0 0] CMT) = W2 at *
  have k2 : Blk W2 (w.heap.size + 1 + 1) CMT #[.int .i64 4, .int .i64 0, .int .i64 0, .int .i64 0, .int .i64 0, .slice none 0 0, .int .i64 0, .int .i64 0, .slice none 0 0, .slice none 0 0, .slice none 0 0, .slice none 0 0, .int .i64 5, .int .i64 0, .int .i64 0, .int .i64 0, .int .i64 0, .slice none 0 0, .int .i64 2, .int .i64 0, .slice none 0 0, .slice none 0 0, .slice none 0 0, .slice none 0 0] := by rw [← hW2, ← s1]; exact Blk.new _ _ _
  have s2 : W2.heap.size = w.heap.size + 1 + 1 + 1 := by rw [← hW2, alloc_size, s1]
  have b2 : Bel W1 W2 := by rw [← hW2]; exact (Bel.rfl_ W1).al _
  generalize hW3 : W2.alloc (.cells #[.int .i64 0, .slice (some ⟨w.heap.size + 1, 0, none⟩) 1 1, .slice (some ⟨w.heap.size + 1 + 1, 0, none⟩) 2 2, .int .i64 0, .int .i64 0, .slice none 0 0] FNT) = W3 at *
  have k3 : Blk W3 (w.heap.size + 1 + 1 + 1) FNT #[.int .i64 0, .slice (some ⟨w.heap.size + 1, 0, none⟩) 1 1, .slice (some ⟨w.heap.size + 1 + 1, 0, none⟩) 2 2, .int .i64 0, .int .i64 0, .slice none 0 0] := by rw [← hW3, ← s2]; exact Blk.new _ _ _
  have b3 : Bel W2 W3 := by rw [← hW3]; exact (Bel.rfl_ W2).al _
  have hsl := small_sl (k1.keep (b2.tr b3)) (k2.keep b3) k3
  have k0' := k0.keep (b1.tr (b2.tr b3))
  have hbel := b0.tr (b1.tr (b2.tr b3))
  generalize w.heap.size = Q at *
  exact bodyPost_ret (v := .agg #[.slice (some ⟨Q + 1 + 1 + 1, 0, none⟩) 1 1]) (by have c0 := k0'.cell (i := 0) rfl; simp [results, c0, go_sem]) rfl ⟨_, rfl, hsl, hbel⟩
theorem small_ok : errP smallPs = 0 := by decide +kernel
theorem flatMap_get {α : Type} {enc : α → List Value} {s : Nat} (hs : ∀ x, (enc x).length = s) : ∀ (xs : List α) (k : Nat) (x : α) (j : Nat), xs[k]? = some x → j < s → (xs.flatMap enc)[k * s + j]? = (enc x)[j]?
  | [], k, x, j, h, _ => by simp at h
  | y :: ys, 0, x, j, h, hj => by
    simp only [List.getElem?_cons_zero, Option.some.injEq] at h
    subst h
    rw [List.flatMap_cons, Nat.zero_mul, Nat.zero_add, List.getElem?_append_left (by rw [hs]; exact hj)]
  | y :: ys, k + 1, x, j, h, hj => by
    simp only [List.getElem?_cons_succ] at h
    rw [List.flatMap_cons, List.getElem?_append_right (by rw [hs, Nat.add_mul, Nat.one_mul]; omega), hs, show (k + 1) * s + j - s = k * s + j by rw [Nat.add_mul, Nat.one_mul]; omega]
    exact flatMap_get hs ys k x j h hj
theorem isNumber_any (n : Int) (w : World) : Calls Try.prog 49 #[.int .i64 n] w fun r w' => r = .returned (.bool (decide (Num n))) ∧ w = w' := by
  have HN : Hid (decide (-2147483648 ≤ n ∧ n ≤ 2147483647) = decide (Num n)) := Lib.hid (by rw [Bool.eq_iff_iff, decide_eq_true_iff, decide_eq_true_iff]; exact Iff.rfl)
  generalize decide (Num n) = T at *
  go_enter Try.func49, Try.ntmps49
  go_wp2_with fail
  refine (between_any _ _ _ _).mono ?_
  rintro r w1 ⟨rfl, rfl⟩
  rw [HN.out]
  go_wp2
  go_ret
  exact ⟨rfl, rfl⟩
section
variable {o : Oper} {ρ : Operand → Value} {W : World} {x y : Operand} {b f : Nat} {v : Value} {t2 : TypeId} {k l m : Int}
theorem rb_subI (ho : o.op = .binOp .sub 3 x y t2) (hx : ρ x = .int .i64 k) (hy : ρ y = .int .i64 l) (h0 : -9223372036854775808 ≤ k - l) (h1 : k - l ≤ 9223372036854775807) (hm : k - l = m) : (execOp ρ o).run Try.prog W = .ok (.value (.int .i64 m)) W := by
  subst hm
  have hw : IntKind.i64.wrap (k - l) = k - l := by rw [IntKind.wrap_i64]; omega
  simp [execOp, ho, hx, hy, hw, go_sem]
end
abbrev intsR : Rep (List Int) := Rep.slice intR
instance : DecidableEq Fm := fun a b => decidable_of_iff (a.num = b.num ∧ a.fn = b.fn ∧ a.vars = b.vars) (by cases a; cases b; simp)
end Go.Proofs.Ytgkpplbomciehaa
