/- The numbers of the functions' first commands, by the program: walked. Each lemma states its own conditions. -/
import Derived.Test.YtgkpplbomciehaaSca30
namespace Go.Proofs.Ytgkpplbomciehaa
open Go.RowKit
def firsts (ps : List PF) (n : Nat) : List Int := (List.range n).map (firstC ps)
theorem firsts_succ (ps : List PF) (n : Nat) : firsts ps (n + 1) = firsts ps n ++ [firstC ps n] := by unfold firsts; rw [List.range_succ, List.map_append]; rfl
theorem firsts_len (ps : List PF) (n : Nat) : (firsts ps n).length = n := by unfold firsts; simp
theorem firsts_at (ps : List PF) {i n : Nat} (h : i < n) : (firsts ps n)[i]? = some (firstC ps i) := by unfold firsts; rw [List.getElem?_map, List.getElem?_range h]; rfl
theorem firstC_succ {ps : List PF} {j : Nat} {g : PF} (h : ps[j]? = some g) : firstC ps (j + 1) = firstC ps j + cntP g.cmds := by
  unfold firstC
  rw [take_snoc h, List.map_append, List.sum_append]
  simp
set_option maxRecDepth 20000 in
set_option maxHeartbeats 8000000 in
theorem first_any (ps : List PF) (hp : Prog ps) (v : Value) (w : World) (h : Sl pfR w v ps) :
    Calls Try.prog 99 #[.agg #[v]] w fun r w' => ∃ u, r = .returned u ∧ w'.ownsRow w.heap.size INT 1 u ps.length ((firsts ps ps.length).map (Value.int .i64)) ∧ Bel w w' := by
  have HSL := Lib.hid h
  have HPR := Lib.hid hp
  have h6 := hp.six
  obtain ⟨A, c, rfl, hll⟩ := sl_lit h
  have HB1 : Hid (Bel w (w.alloc (.cells #[.slice A ps.length c] 40))) := Lib.hid ((Bel.rfl_ w).al _)
  have HO0 : Hid ((w.alloc (.cells #[.slice A ps.length c] 40)).ownsRow w.heap.size INT 1 (.slice none 0 0) 0 ((firsts ps 0).map (Value.int .i64))) := Lib.hid (World.ownsRow_nil _ _ _ _)
  clear h hp
  go_enter Try.func99, Try.ntmps99
  go_wp2
  generalize hW1 : w.alloc (.cells #[.slice A ps.length c] 40) = W1 at *
  clear hW1
  go_loopw [3, 4, 10] (fun v n i wr => ∃ j : Nat, i = .int .i64 j ∧ n = .int .i64 (firstC ps j) ∧ j ≤ ps.length ∧ Hid (wr.ownsRow w.heap.size INT 1 v j ((firsts ps j).map (Value.int .i64))) ∧ Hid (Bel w wr)) (fun _ _ i _ => ps.length - (intOf i).toNat)
  case atStart => exact ⟨0, rfl, rfl, Nat.zero_le _, HO0, HB1⟩
  case round =>
    obtain ⟨j, rfl, rfl, hj, HO, HB⟩ := hrel
    obtain ⟨WO, hWO⟩ : ∃ W, W = wr := ⟨_, rfl⟩
    subst hWO
    clear HO0 HB1
    by_cases hlt : j < ps.length
    rotate_left
    · have hdd : decide ((j : Int) < ps.length) = false := decide_eq_false (by omega)
      have hjl : j = ps.length := by omega
      subst hjl
      go_wp2
      go_ret
      exact ⟨_, rfl, HO.out, HB.out⟩
    have hdd : decide ((j : Int) < ps.length) = true := decide_eq_true (by omega)
    obtain ⟨g, hg⟩ : ∃ g, ps[j]? = some g := ⟨_, List.getElem?_eq_getElem hlt⟩
    obtain ⟨b, o, fcs, rfl, hfc, hfa⟩ := HSL.out.elem hg
    have HF : Hid (PFR w g fcs) := Lib.hid hfc
    have HFA := Lib.hid (hfa.keep HB.out)
    have HCM := Lib.hid (HPR.out.cmds hg)
    have HFS := Lib.hid (firstC_succ hg)
    have hn0 : 0 ≤ firstC ps j := HCM.out.1
    have hn1 : firstC ps j ≤ 40 := by have := HCM.out.2.1; omega
    have i0 : (0 : Int) ≤ j := by omega
    have i1 : (j : Int) < ps.length := by omega
    clear hfc hfa hg
    go_upto_region 6 with (refine copyPF (.tmp 12) (.tmp 6) (.tmp 13) rfl rfl rfl rfl rfl rfl b (o + j * 6) (by exact rfl) fcs HFA.out HF.out (by exact rfl) (by exact rfl) ?_)
    have HB2 := Lib.hid (HB.out.al (.cells fcs.toArray FNT))
    have HK := Lib.hid (Blk.new WO FNT fcs.toArray)
    have HO2 := Lib.hid (((Bel.rfl_ WO).al (.cells fcs.toArray FNT)).own HO.out)
    obtain ⟨vz, vc, vr, hq, -, hsc, -⟩ := HF.out
    obtain ⟨Ac, cc, rfl, hlc⟩ := sl_lit hsc
    have HSC := Lib.hid hsc
    have HC2 : Hid (fcs.toArray[2]? = some (.slice Ac g.cmds.length cc)) := Lib.hid (by rw [hq]; rfl)
    clear hsc hq HFA HF
    generalize hW2 : WO.alloc _ = W2 at *
    clear hW2
    generalize WO.heap.size = K at *
    have HJL : Hid ((firsts ps j).length = j) := Lib.hid (firsts_len ps j)
    go_wp2_with (at_builtin; go_loud (refine wpl_app W2 rfl (.tmp 14) (.tmp 16) 23 rfl w.heap.size elI u3 j _ rfl HO2.out [.int .i64 (firstC ps j)] rfl rfl (by simp [Value.oneCell']) (by simp only [maxLen]; omega) (by omega) HB2.out.size ?_); intro g2 cap w4 hown4 hg4 _; have HO4 := Lib.hid hown4; have HG4 := Lib.hid hg4; have c2 := (HK.out.grown hg4 (HK.out.ne_own HO2.out (by decide))).cell HC2.out; clear hown4 hg4)
    have HB4 : Hid (Bel w w4) := Lib.hid (Below.grown HB2.out HG4.out HB2.out.size (fun k hk => (HO2.out.lt k hk).1))
    refine (many_any g.cmds _ _ (HSC.out.keep HB4.out) HCM.out.2.2.1 (by have := HCM.out.2.1; omega)).mono ?_
    rintro y w5 ⟨rfl, hb5⟩
    have HB5 := Lib.hid (HB4.out.tr hb5)
    have HO5 := Lib.hid (hb5.own HO4.out)
    have hct : cntP g.cmds ≤ 1000 := by have := HCM.out.2.1; omega
    clear hb5 c2
    go_wp2
    go_roundw
    case rel =>
      refine ⟨j + 1, by go_num, ?_, by omega, Lib.hid ?_, HB5⟩
      · rw [HFS.out]
      · rw [firsts_succ, List.map_append]
        exact HO5.out
    case measure => simp [intOf]; omega
end Go.Proofs.Ytgkpplbomciehaa
