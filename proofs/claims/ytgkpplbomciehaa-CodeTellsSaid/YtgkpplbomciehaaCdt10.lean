/- Expressions of a program, by the document: their kinds, all their parts. Each lemma states its own conditions. -/
import Derived.Test.YtgkpplbomciehaaCdt09
import Derived.Great.BuildSlice
namespace Go.Proofs.Ytgkpplbomciehaa
open Go.RowKit
set_option maxRecDepth 20000 in
set_option maxHeartbeats 8000000 in
theorem argsOf_any (k : Int) (w : World) : Calls Try.prog 107 #[.int .i64 k] w fun r w' => r = .returned (.int .i64 (arityE k)) ∧ Bel w w' := by
  by_cases h : 1 ≤ k ∧ k ≤ 10
  · have hk : k = 1 ∨ k = 2 ∨ k = 3 ∨ k = 4 ∨ k = 5 ∨ k = 6 ∨ k = 7 ∨ k = 8 ∨ k = 9 ∨ k = 10 := by omega
    clear h
    rcases hk with rfl | rfl | rfl | rfl | rfl | rfl | rfl | rfl | rfl | rfl
    all_goals
      go_enter Try.func107, Try.ntmps107
      go_wp2_with fail
      refine (between_any _ _ _ _).mono ?_
      rintro r w1 ⟨rfl, rfl⟩
      go_wp2
      go_ret
      exact ⟨rfl, by repeat (first | exact Bel.rfl_ _ | apply Bel.al)⟩
  · have e : Hid (arityE k = -1) := Lib.hid (by unfold arityE; rw [if_pos (by omega)])
    have d : decide (1 ≤ k ∧ k ≤ 10) = false := decide_eq_false h
    go_enter Try.func107, Try.ntmps107
    go_wp2_with fail
    refine (between_any _ _ _ _).mono ?_
    rintro r w1 ⟨rfl, rfl⟩
    rw [d]
    clear h d
    go_wp2
    go_ret
    exact ⟨by rw [e.out]; rfl, Bel.rfl_ _⟩
/-- what allParts leaves: a row of its own, each element of which reads in an elder world -/
def AllRes (w0 w : World) (l : List PE) (r : Ending) (w' : World) : Prop := ∃ v cells, r = .returned v ∧ w'.ownsRow w.heap.size 47 3 v l.length cells ∧ (∀ u ∈ cells, u.oneCell' = true) ∧ (∀ (i : Nat) (x : PE), l[i]? = some x → PER w0 x ((cells.drop (i * 3)).take 3)) ∧ Bel w w'
theorem alloc_size (w : World) (o : Obj) : (w.alloc o).heap.size = w.heap.size + 1 := by simp
theorem own_base {w : World} {base base' size n : Nat} {e : TypeId} {v : Value} {xs : List Value} (h : w.ownsRow base e size v n xs) (hb : base' ≤ base) : w.ownsRow base' e size v n xs := by
  refine ⟨h.1, ?_⟩
  rcases h.2 with hn | ⟨g, cap, cur, h1, h2, h3⟩
  · exact .inl hn
  · exact .inr ⟨g, cap, cur, h1, by omega, h3⟩
theorem allP_app : ∀ (a b : List PE), allP (a ++ b) = allP a ++ allP b
  | [], b => by rw [allP]; rfl
  | x :: a, b => by rw [List.cons_append, allP, allP, allP_app a b, List.append_assoc]
theorem allP_take {l : List PE} {j : Nat} {q : PE} (h : l[j]? = some q) : allP (l.take (j + 1)) = allP (l.take j) ++ q.all := by
  rw [List.take_add_one, h, allP_app]
  congr 1
  show allP [q] = q.all
  rw [allP, allP, List.append_nil]
theorem allP_le {l : List PE} {j : Nat} {q : PE} (h : l[j]? = some q) : (allP (l.take j)).length + q.all.length ≤ (allP l).length := by
  have : allP l = allP (l.take (j + 1)) ++ allP (l.drop (j + 1)) := by rw [← allP_app, List.take_append_drop]
  rw [this, allP_take h]
  simp
theorem PE.all_eq (k n : Int) (args : List PE) : (PE.mk k n args).all = .mk k n args :: allP args := by rw [PE.all]
theorem chunk_left {a b : List Value} {n i : Nat} (ha : a.length = n * 3) (hi : i < n) : ((a ++ b).drop (i * 3)).take 3 = (a.drop (i * 3)).take 3 := by
  rw [List.drop_append_of_le_length (by omega), List.take_append_of_le_length (by rw [List.length_drop]; omega)]
theorem chunk_right {a b : List Value} {n i : Nat} (ha : a.length = n * 3) (hi : n ≤ i) : ((a ++ b).drop (i * 3)).take 3 = (b.drop ((i - n) * 3)).take 3 := by
  rw [List.drop_append, List.drop_of_length_le (by omega), List.nil_append, ha]
  congr 2
  omega
set_option maxRecDepth 20000 in
set_option maxHeartbeats 2000000 in
theorem all_step (w0 : World) (k n : Int) (args : List PE) (h15 : (PE.mk k n args).all.length ≤ 15) (IH : ∀ x ∈ args, ∀ (val : Value) (W : World), x.all.length ≤ 15 → PEV w0 x val → Bel w0 W → Calls Try.prog 106 #[val] W fun r w' => AllRes w0 W x.all r w')
    (val : Value) (w : World) (h : PEV w0 (.mk k n args) val) (hb0 : Bel w0 w) :
    Calls Try.prog 106 #[val] w fun r w' => AllRes w0 w (PE.mk k n args).all r w' := by
  obtain ⟨v, rfl, hv⟩ := h
  obtain ⟨A, c, rfl, hc, hm, hA⟩ := id hv
  have HI := Lib.hid IH
  have HA := Lib.hid hA
  have HV : Hid (PER w0 (.mk k n args) [.int .i64 k, .int .i64 n, .slice A args.length c]) := Lib.hid (PER.shut hv)
  have HB0 := Lib.hid hb0
  rw [PE.all_eq] at h15 ⊢
  have hlm : args.length ≤ 9223372036854775807 := by have := hm.1; simp only [maxLen] at this; simp only [PE.args] at hc; omega
  simp only [PE.kind, PE.n, PE.args] at HA hc ⊢
  clear hm IH hA hv hb0
  have h14 : (allP args).length ≤ 14 := by simp at h15; omega
  clear h15
  go_enter Try.func106, Try.ntmps106
  go_wp2
  go_loopw [3, 4] (fun v i wr => ∃ (j : Nat) (cells : List Value), i = .int .i64 j ∧ j ≤ args.length ∧ Hid (wr.ownsRow (w.heap.size + 1) 47 3 v (1 + (allP (args.take j)).length) cells) ∧ Hid (∀ u ∈ cells, u.oneCell' = true) ∧ Hid (∀ (i : Nat) (x : PE), (PE.mk k n args :: allP (args.take j))[i]? = some x → PER w0 x ((cells.drop (i * 3)).take 3)) ∧ Hid (Bel w wr) ∧ Hid (Blk wr w.heap.size 47 #[.int .i64 k, .int .i64 n, .slice A args.length c])) (fun _ i _ => args.length - (intOf i).toNat)
  case atStart =>
    refine ⟨0, [.int .i64 k, .int .i64 n, .slice A args.length c], rfl, by omega, ?_, ?_, ?_, ((Bel.rfl_ w).al _).al _, ?_⟩
    · rw [List.take_zero, allP]
      refine ⟨rfl, .inr ⟨w.heap.size + 1, 1, #[.int .i64 k, .int .i64 n, .slice A args.length c], rfl, Nat.le_refl _, ?_, by decide, by decide, rfl, rfl⟩⟩
      have := Blk.new (w.alloc (.cells #[.int .i64 k, .int .i64 n, .slice A args.length c] 47)) 47 #[.int .i64 k, .int .i64 n, .slice A args.length c]
      rw [alloc_size] at this
      exact this
    · intro u hu
      simp at hu
      rcases hu with rfl | rfl | rfl <;> rfl
    · intro i x hx
      rw [List.take_zero, allP] at hx
      have h0 : i = 0 := by have := (List.getElem?_eq_some_iff.1 hx).1; simp at this; omega
      subst h0
      obtain rfl := Option.some.inj hx
      exact HV.out
    · exact (Blk.new w _ _).keep ((Bel.rfl_ _).al _)
  case round =>
    obtain ⟨j, cells, rfl, hj, HO, HC1, HR, HB, HK⟩ := hrel
    have z2 := HK.out.cell (i := 2) (v := .slice A args.length c) rfl
    by_cases hlt : j < args.length
    · obtain ⟨q, hq⟩ : ∃ e, args[j]? = some e := ⟨_, List.getElem?_eq_getElem hlt⟩
      obtain ⟨b, o, rfl, hA⟩ := HA.out (by omega)
      have HBW := Lib.hid (HB0.out.tr HB.out)
      obtain ⟨B, mm, cc, hs, y0, y1, y2⟩ := peR.cells hA hq
      have y0 := HBW.out.cell y0
      have y1 := HBW.out.cell y1
      have y2 := HBW.out.cell y2
      have HQ := Lib.hid hq
      have hle := allP_le hq
      have HC := Lib.hid (fun W (hb : Bel w0 W) => HI.out q (List.mem_of_getElem? hq) (.agg #[.int .i64 q.kind, .int .i64 q.n, .slice B mm cc]) W (by omega) ⟨_, rfl, hs⟩ hb)
      clear hq hs hA HA
      have HT := Lib.hid (allP_take HQ.out)
      obtain ⟨lq, hlq⟩ : ∃ l, q.all = l := ⟨_, rfl⟩
      rw [hlq] at HC HT hle
      obtain ⟨la, hla⟩ : ∃ l, allP (args.take j) = l := ⟨_, rfl⟩
      rw [hla] at HT hle HO HR
      clear hlq hla
      generalize q.kind = qk at *
      generalize q.n = qn at *
      go_wp2_with fail
      refine (HC.out _ HBW.out).mono ?_
      rintro e w3 ⟨v3, cells3, rfl, hown3, hone3, hper3, hb3⟩
      have HB3 := Lib.hid hb3
      have HO3 := Lib.hid (hb3.own HO.out)
      have HN3 := Lib.hid hown3
      have HP3 := Lib.hid hper3
      have HU3 := Lib.hid hone3
      have hlq0 : 0 < lq.length ∨ lq.length = 0 := by omega
      obtain ⟨A3, c3, rfl, h3N, h3C⟩ : ∃ A c, v3 = .slice A lq.length c ∧ (A = none → c = 0) ∧ (0 < lq.length → ∃ b off, A = some ⟨b, off, none⟩ ∧ CellsAt w3 b off cells3) := by
        rcases Nat.eq_zero_or_pos lq.length with h0 | h0
        · rcases hown3.2 with ⟨rfl, _⟩ | ⟨g, cap, cur, rfl, _⟩
          · exact ⟨none, 0, by rw [h0], fun _ => rfl, fun h => by omega⟩
          · exact ⟨_, _, rfl, (fun h => by cases h), fun h => absurd h (by omega)⟩
        · obtain ⟨g, cap, rfl, -, -, -, hcell, -⟩ := own_lies hown3 h0
          exact ⟨_, _, rfl, (fun h => by cases h), fun _ => ⟨g, 0, rfl, fun j u hu => by rw [Nat.zero_add]; exact hcell j u hu⟩⟩
      have H3N := Lib.hid h3N
      have H3C := Lib.hid h3C
      have H3L := Lib.hid hown3.1
      have HSZ := Lib.hid (Nat.le_trans (Blk.lt HK.out) hb3.size)
      clear h3N h3C hown3 hone3 hper3 hb3 hlq0
      go_wp2_with (at_builtin; refine wpl_appAll w3 rfl (.tmp 14) (.tmp 20) 45 rfl (w.heap.size + 1) elPE _ (1 + la.length) cells rfl HO3.out A3 lq.length c3 cells3 rfl H3L.out H3N.out H3C.out HU3.out (by simp only [maxLen]; omega) (by omega) (by have := HSZ.out; omega) ?_; intro v4 w4 hown4 hg4 _; have HO4 := Lib.hid hown4; have HG4 := Lib.hid hg4; clear hown4 hg4)
      go_roundw
      case rel =>
        refine ⟨j + 1, cells ++ cells3, by go_num, by omega, ?_, ?_, ?_, ?_, ?_⟩
        · rw [HT.out, List.length_append, ← Nat.add_assoc]
          exact HO4.out
        · intro u hu
          rcases List.mem_append.1 hu with hu | hu
          · exact HC1.out u hu
          · exact HU3.out u hu
        · intro i x hx
          rw [HT.out, ← List.cons_append] at hx
          have hcl : cells.length = (1 + la.length) * 3 := HO3.out.1
          rcases Nat.lt_or_ge i (1 + la.length) with hi | hi
          · rw [List.getElem?_append_left (by simp; omega)] at hx
            rw [chunk_left hcl hi]
            exact HR.out i x hx
          · rw [List.getElem?_append_right (by simp; omega)] at hx
            rw [chunk_right hcl hi]
            refine HP3.out _ x ?_
            rw [← hx]
            congr 1
            simp
            omega
        · exact Bel.trB (HB.out.tr HB3.out) (Bel.rfl_ _) (Nat.le_trans HB.out.size HB3.out.size) |>.grown HG4.out (Nat.le_trans HB.out.size HB3.out.size) (fun k hk => by have := (HO3.out.lt k hk).1; omega)
        · have hk3 := HK.out.keep HB3.out
          exact (HG4.out.block _ hk3.lt (fun he => by have := (HO3.out.lt _ he.symm).1; omega)).trans hk3
      case measure => simp [intOf]; omega
    · have hjl : j = args.length := by omega
      subst hjl
      go_wp2
      go_ret
      refine ⟨_, cells, rfl, ?_, HC1.out, ?_, HB.out⟩
      · have := HO.out
        rw [List.take_length, Nat.add_comm 1] at this
        exact own_base (base := w.heap.size + 1) this (by omega)
      · have := HR.out
        rw [List.take_length] at this
        exact this
theorem allParts_any (w0 : World) : ∀ (e : PE) (val : Value) (w : World), e.all.length ≤ 15 → PEV w0 e val → Bel w0 w → Calls Try.prog 106 #[val] w fun r w' => AllRes w0 w e.all r w' :=
  PE.ind fun k n args ih val w h15 h hb => all_step w0 k n args h15 (fun x hx val W h1 h2 h3 => ih x hx val W h1 h2 h3) val w h hb
end Go.Proofs.Ytgkpplbomciehaa
