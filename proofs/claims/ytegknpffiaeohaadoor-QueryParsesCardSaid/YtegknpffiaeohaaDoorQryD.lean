/- What is wrong with a query: the document's check walked. Each lemma states its own conditions. -/
import Derived.Test.YtegknpffiaeohaaDoorQryC
namespace Go.Proofs.YtegknpffiaeohaaDoor
open Go.RowKit

theorem inLeast (k : Int) (h : k ≠ 1 ∧ k ≠ 2 ∧ k ≠ 3 ∧ k ≠ 5 ∧ k ≠ 6 ∧ k ≠ 14) : leastN k = 0 ∧ mostN k = 0 := by
  unfold leastN mostN
  constructor <;> simp [h.1, h.2.1, h.2.2.1, h.2.2.2.1, h.2.2.2.2.1, h.2.2.2.2.2]

set_option maxRecDepth 20000 in
set_option maxHeartbeats 1000000 in
theorem askCheck_step (k n : Int) (args : List Ask) (IH : ∀ x ∈ args, ∀ (val : Value) (W : World), AskV W x val →
      Calls Tryd.prog 23 #[val] W fun r w' => r = .returned (.int .i64 x.chk) ∧ Bel W w')
    (val : Value) (w : World) (h : AskV w (.mk k n args) val) :
    Calls Tryd.prog 23 #[val] w fun r w' => r = .returned (.int .i64 (Ask.mk k n args).chk) ∧ Bel w w' := by
  obtain ⟨v, rfl, hsl⟩ := h
  obtain ⟨A, c, rfl, hc, hm, hA⟩ := hsl
  have HI := Lib.hid IH; clear IH
  have HA := Lib.hid hA; clear hA
  have HT : Hid ((if 1 ≤ k ∧ k ≤ 14 then if (args.length : Int) = arity k then if leastN k ≤ n ∧ n ≤ mostN k then chkL args else 3 else 1 else 7) = (Ask.mk k n args).chk) := Lib.hid (by rw [Ask.chk])
  generalize (Ask.mk k n args).chk = T at HT ⊢
  have hlm : args.length ≤ 9223372036854775807 := by have := hm.1; simp only [maxLen] at this; simp only [Ask.args] at hc; omega
  simp only [Ask.kind, Ask.n, Ask.args] at HA hc ⊢
  clear hm
  have HAR := Lib.hid (fun W => (askArgs_any k W).mono (R' := fun r w' => r = .returned (.int .i64 (arity k)) ∧ w' = W) fun _ _ h => ⟨h.1, h.2.symm⟩)
  have har := arity_cases k
  have HBK := Lib.hid (fun W => between_any k 1 14 W)
  have HBT := Lib.hid (fun W => between_any n (leastN k) (mostN k) W)
  by_cases h1 : 1 ≤ k ∧ k ≤ 14
  · rw [if_pos h1] at HT
    rw [decide_eq_true h1] at HBK
    have H1 := Lib.hid h1; clear h1
    by_cases h2 : (args.length : Int) = arity k
    · rw [if_pos h2] at HT
      have h2' : ((args.length : Int) != arity k) = false := by simpa using h2
      generalize arity k = a at *
      cases h3 : decide (leastN k ≤ n ∧ n ≤ mostN k) with
      | false =>
        rw [h3] at HBT
        rw [if_neg (of_decide_eq_false h3)] at HT
        clear h3 HI HA
        by_cases hk1 : k = 1
        · subst hk1
          rw [show leastN 1 = -1 from rfl, show mostN 1 = 9999999 from rfl] at HBT
          go_enter Tryd.func23, Tryd.ntmps23
          go_wp2_with fail
          refine (HBK.out _).mono ?_
          rintro e w' ⟨rfl, rfl⟩
          go_wp2
          go_quiet ((go_at_call 25; exact Calls.quiet_of_same (HAR.out _)))
          go_wp2_with fail
          refine (HBT.out _).mono ?_
          rintro e w' ⟨rfl, rfl⟩
          go_wp2
          go_ret
          exact ⟨by rw [← HT.out]; rfl, ((Bel.rfl_ w).al _).drN _⟩
        by_cases hk2 : k = 2
        · subst hk2
          rw [show leastN 2 = -1 from rfl, show mostN 2 = 9999999 from rfl] at HBT
          go_enter Tryd.func23, Tryd.ntmps23
          go_wp2_with fail
          refine (HBK.out _).mono ?_
          rintro e w' ⟨rfl, rfl⟩
          go_wp2
          go_quiet ((go_at_call 25; exact Calls.quiet_of_same (HAR.out _)))
          go_wp2_with fail
          refine (HBT.out _).mono ?_
          rintro e w' ⟨rfl, rfl⟩
          go_wp2
          go_ret
          exact ⟨by rw [← HT.out]; rfl, ((Bel.rfl_ w).al _).drN _⟩
        by_cases hk3 : k = 3
        · subst hk3
          rw [show leastN 3 = -1 from rfl, show mostN 3 = 9999999 from rfl] at HBT
          go_enter Tryd.func23, Tryd.ntmps23
          go_wp2_with fail
          refine (HBK.out _).mono ?_
          rintro e w' ⟨rfl, rfl⟩
          go_wp2
          go_quiet ((go_at_call 25; exact Calls.quiet_of_same (HAR.out _)))
          go_wp2_with fail
          refine (HBT.out _).mono ?_
          rintro e w' ⟨rfl, rfl⟩
          go_wp2
          go_ret
          exact ⟨by rw [← HT.out]; rfl, ((Bel.rfl_ w).al _).drN _⟩
        by_cases hk5 : k = 5
        · subst hk5
          rw [show leastN 5 = -9999999 from rfl, show mostN 5 = 9999999 from rfl] at HBT
          go_enter Tryd.func23, Tryd.ntmps23
          go_wp2_with fail
          refine (HBK.out _).mono ?_
          rintro e w' ⟨rfl, rfl⟩
          go_wp2
          go_quiet ((go_at_call 25; exact Calls.quiet_of_same (HAR.out _)))
          go_wp2_with fail
          refine (HBT.out _).mono ?_
          rintro e w' ⟨rfl, rfl⟩
          go_wp2
          go_ret
          exact ⟨by rw [← HT.out]; rfl, ((Bel.rfl_ w).al _).drN _⟩
        by_cases hk6 : k = 6
        · subst hk6
          rw [show leastN 6 = -9999999 from rfl, show mostN 6 = 9999999 from rfl] at HBT
          go_enter Tryd.func23, Tryd.ntmps23
          go_wp2_with fail
          refine (HBK.out _).mono ?_
          rintro e w' ⟨rfl, rfl⟩
          go_wp2
          go_quiet ((go_at_call 25; exact Calls.quiet_of_same (HAR.out _)))
          go_wp2_with fail
          refine (HBT.out _).mono ?_
          rintro e w' ⟨rfl, rfl⟩
          go_wp2
          go_ret
          exact ⟨by rw [← HT.out]; rfl, ((Bel.rfl_ w).al _).drN _⟩
        by_cases hk14 : k = 14
        · subst hk14
          rw [show leastN 14 = 0 from rfl, show mostN 14 = 4000 from rfl] at HBT
          go_enter Tryd.func23, Tryd.ntmps23
          go_wp2_with fail
          refine (HBK.out _).mono ?_
          rintro e w' ⟨rfl, rfl⟩
          go_wp2
          go_quiet ((go_at_call 25; exact Calls.quiet_of_same (HAR.out _)))
          go_wp2_with fail
          refine (HBT.out _).mono ?_
          rintro e w' ⟨rfl, rfl⟩
          go_wp2
          go_ret
          exact ⟨by rw [← HT.out]; rfl, ((Bel.rfl_ w).al _).drN _⟩
        rw [(inLeast k ⟨hk1, hk2, hk3, hk5, hk6, hk14⟩).1, (inLeast k ⟨hk1, hk2, hk3, hk5, hk6, hk14⟩).2] at HBT
        go_enter Tryd.func23, Tryd.ntmps23
        go_wp2_with fail
        refine (HBK.out _).mono ?_
        rintro e w' ⟨rfl, rfl⟩
        go_wp2
        go_quiet ((go_at_call 25; exact Calls.quiet_of_same (HAR.out _)))
        go_wp2_with fail
        refine (HBT.out _).mono ?_
        rintro e w' ⟨rfl, rfl⟩
        go_wp2
        go_ret
        exact ⟨by rw [← HT.out]; rfl, ((Bel.rfl_ w).al _).drN _⟩
      | true =>
        rw [h3] at HBT
        rw [if_pos (of_decide_eq_true h3)] at HT
        clear h3
        by_cases hk1 : k = 1
        · subst hk1
          rw [show leastN 1 = -1 from rfl, show mostN 1 = 9999999 from rfl] at HBT
          go_enter Tryd.func23, Tryd.ntmps23
          go_wp2_with fail
          refine (HBK.out _).mono ?_
          rintro e w' ⟨rfl, rfl⟩
          go_wp2
          go_quiet ((go_at_call 25; exact Calls.quiet_of_same (HAR.out _)))
          go_wp2_with fail
          refine (HBT.out _).mono ?_
          rintro e w' ⟨rfl, rfl⟩
          go_wp2
          go_loopw [5] (fun i wr => ∃ (j : Nat), i = .int .i64 j ∧ j ≤ args.length ∧ Hid (chkL (args.drop j) = T) ∧ Hid (Bel (w.alloc (.cells #[.int .i64 1, .int .i64 n, .slice A args.length c] 24)) wr)) (fun i _ => args.length - (intOf i).toNat)
          case atStart => exact ⟨0, rfl, by omega, by simpa using HT, (Bel.rfl_ _).drN _⟩
          case round =>
            obtain ⟨j, rfl, hj, HS, HB⟩ := hrel
            clear HT
            have z2 : wr.cell? ⟨w.heap.size, 2, none⟩ = some (.slice A args.length c) := ((Blk.new w 24 #[.int .i64 1, .int .i64 n, .slice A args.length c]).keep HB.out).cell rfl
            have HB1 := Lib.hid (((Bel.rfl_ w).al _).tr HB.out)
            by_cases hlt : j < args.length
            · obtain ⟨q, hq⟩ : ∃ e, args[j]? = some e := ⟨_, List.getElem?_eq_getElem hlt⟩
              obtain ⟨b, o, rfl, hA⟩ := HA.out (by omega)
              obtain ⟨B, mm, cc, hs, y0, y1, y2⟩ := askR.cells hA hq
              have y0 := HB1.out.cell y0
              have y1 := HB1.out.cell y1
              have y2 := HB1.out.cell y2
              have HQ := Lib.hid hq; have HSQ := Lib.hid (hs.keep HB1.out); clear hq hs hA HA
              generalize hk : q.kind = qk at *
              generalize hn : q.n = qn at *
              have HK := Lib.hid hk; have HN := Lib.hid hn; clear hk hn
              have HR : Hid ((if q.chk = 0 then chkL (args.drop (j + 1)) else q.chk) = T) := Lib.hid (by rw [← HS.out, chkL_drop HQ.out])
              go_wp2_with fail
              refine (HI.out q (List.mem_of_getElem? HQ.out) _ _ ⟨_, by rw [HK.out, HN.out], HSQ.out⟩).mono ?_
              rintro e w' ⟨rfl, hb⟩
              have HB' := Lib.hid (HB.out.tr hb); have HB2 := Lib.hid (HB1.out.tr hb); clear hb
              generalize q.chk = z at HR
              by_cases hz : z = 0
              · rw [if_pos hz] at HR
                go_wp2
                go_roundw
                case rel => exact ⟨j + 1, by go_num, by omega, HR, HB'⟩
                case measure => simp [intOf]; omega
              · rw [if_neg hz] at HR
                go_wp2
                go_ret
                exact ⟨by rw [← HR.out]; rfl, HB2.out⟩
            · have HR : Hid (0 = T) := Lib.hid (by rw [← HS.out, chkL_end (by omega)])
              go_wp2
              go_ret
              exact ⟨by rw [← HR.out]; rfl, HB1.out⟩
        by_cases hk2 : k = 2
        · subst hk2
          rw [show leastN 2 = -1 from rfl, show mostN 2 = 9999999 from rfl] at HBT
          go_enter Tryd.func23, Tryd.ntmps23
          go_wp2_with fail
          refine (HBK.out _).mono ?_
          rintro e w' ⟨rfl, rfl⟩
          go_wp2
          go_quiet ((go_at_call 25; exact Calls.quiet_of_same (HAR.out _)))
          go_wp2_with fail
          refine (HBT.out _).mono ?_
          rintro e w' ⟨rfl, rfl⟩
          go_wp2
          go_loopw [5] (fun i wr => ∃ (j : Nat), i = .int .i64 j ∧ j ≤ args.length ∧ Hid (chkL (args.drop j) = T) ∧ Hid (Bel (w.alloc (.cells #[.int .i64 2, .int .i64 n, .slice A args.length c] 24)) wr)) (fun i _ => args.length - (intOf i).toNat)
          case atStart => exact ⟨0, rfl, by omega, by simpa using HT, (Bel.rfl_ _).drN _⟩
          case round =>
            obtain ⟨j, rfl, hj, HS, HB⟩ := hrel
            clear HT
            have z2 : wr.cell? ⟨w.heap.size, 2, none⟩ = some (.slice A args.length c) := ((Blk.new w 24 #[.int .i64 2, .int .i64 n, .slice A args.length c]).keep HB.out).cell rfl
            have HB1 := Lib.hid (((Bel.rfl_ w).al _).tr HB.out)
            by_cases hlt : j < args.length
            · obtain ⟨q, hq⟩ : ∃ e, args[j]? = some e := ⟨_, List.getElem?_eq_getElem hlt⟩
              obtain ⟨b, o, rfl, hA⟩ := HA.out (by omega)
              obtain ⟨B, mm, cc, hs, y0, y1, y2⟩ := askR.cells hA hq
              have y0 := HB1.out.cell y0
              have y1 := HB1.out.cell y1
              have y2 := HB1.out.cell y2
              have HQ := Lib.hid hq; have HSQ := Lib.hid (hs.keep HB1.out); clear hq hs hA HA
              generalize hk : q.kind = qk at *
              generalize hn : q.n = qn at *
              have HK := Lib.hid hk; have HN := Lib.hid hn; clear hk hn
              have HR : Hid ((if q.chk = 0 then chkL (args.drop (j + 1)) else q.chk) = T) := Lib.hid (by rw [← HS.out, chkL_drop HQ.out])
              go_wp2_with fail
              refine (HI.out q (List.mem_of_getElem? HQ.out) _ _ ⟨_, by rw [HK.out, HN.out], HSQ.out⟩).mono ?_
              rintro e w' ⟨rfl, hb⟩
              have HB' := Lib.hid (HB.out.tr hb); have HB2 := Lib.hid (HB1.out.tr hb); clear hb
              generalize q.chk = z at HR
              by_cases hz : z = 0
              · rw [if_pos hz] at HR
                go_wp2
                go_roundw
                case rel => exact ⟨j + 1, by go_num, by omega, HR, HB'⟩
                case measure => simp [intOf]; omega
              · rw [if_neg hz] at HR
                go_wp2
                go_ret
                exact ⟨by rw [← HR.out]; rfl, HB2.out⟩
            · have HR : Hid (0 = T) := Lib.hid (by rw [← HS.out, chkL_end (by omega)])
              go_wp2
              go_ret
              exact ⟨by rw [← HR.out]; rfl, HB1.out⟩
        by_cases hk3 : k = 3
        · subst hk3
          rw [show leastN 3 = -1 from rfl, show mostN 3 = 9999999 from rfl] at HBT
          go_enter Tryd.func23, Tryd.ntmps23
          go_wp2_with fail
          refine (HBK.out _).mono ?_
          rintro e w' ⟨rfl, rfl⟩
          go_wp2
          go_quiet ((go_at_call 25; exact Calls.quiet_of_same (HAR.out _)))
          go_wp2_with fail
          refine (HBT.out _).mono ?_
          rintro e w' ⟨rfl, rfl⟩
          go_wp2
          go_loopw [5] (fun i wr => ∃ (j : Nat), i = .int .i64 j ∧ j ≤ args.length ∧ Hid (chkL (args.drop j) = T) ∧ Hid (Bel (w.alloc (.cells #[.int .i64 3, .int .i64 n, .slice A args.length c] 24)) wr)) (fun i _ => args.length - (intOf i).toNat)
          case atStart => exact ⟨0, rfl, by omega, by simpa using HT, (Bel.rfl_ _).drN _⟩
          case round =>
            obtain ⟨j, rfl, hj, HS, HB⟩ := hrel
            clear HT
            have z2 : wr.cell? ⟨w.heap.size, 2, none⟩ = some (.slice A args.length c) := ((Blk.new w 24 #[.int .i64 3, .int .i64 n, .slice A args.length c]).keep HB.out).cell rfl
            have HB1 := Lib.hid (((Bel.rfl_ w).al _).tr HB.out)
            by_cases hlt : j < args.length
            · obtain ⟨q, hq⟩ : ∃ e, args[j]? = some e := ⟨_, List.getElem?_eq_getElem hlt⟩
              obtain ⟨b, o, rfl, hA⟩ := HA.out (by omega)
              obtain ⟨B, mm, cc, hs, y0, y1, y2⟩ := askR.cells hA hq
              have y0 := HB1.out.cell y0
              have y1 := HB1.out.cell y1
              have y2 := HB1.out.cell y2
              have HQ := Lib.hid hq; have HSQ := Lib.hid (hs.keep HB1.out); clear hq hs hA HA
              generalize hk : q.kind = qk at *
              generalize hn : q.n = qn at *
              have HK := Lib.hid hk; have HN := Lib.hid hn; clear hk hn
              have HR : Hid ((if q.chk = 0 then chkL (args.drop (j + 1)) else q.chk) = T) := Lib.hid (by rw [← HS.out, chkL_drop HQ.out])
              go_wp2_with fail
              refine (HI.out q (List.mem_of_getElem? HQ.out) _ _ ⟨_, by rw [HK.out, HN.out], HSQ.out⟩).mono ?_
              rintro e w' ⟨rfl, hb⟩
              have HB' := Lib.hid (HB.out.tr hb); have HB2 := Lib.hid (HB1.out.tr hb); clear hb
              generalize q.chk = z at HR
              by_cases hz : z = 0
              · rw [if_pos hz] at HR
                go_wp2
                go_roundw
                case rel => exact ⟨j + 1, by go_num, by omega, HR, HB'⟩
                case measure => simp [intOf]; omega
              · rw [if_neg hz] at HR
                go_wp2
                go_ret
                exact ⟨by rw [← HR.out]; rfl, HB2.out⟩
            · have HR : Hid (0 = T) := Lib.hid (by rw [← HS.out, chkL_end (by omega)])
              go_wp2
              go_ret
              exact ⟨by rw [← HR.out]; rfl, HB1.out⟩
        by_cases hk5 : k = 5
        · subst hk5
          rw [show leastN 5 = -9999999 from rfl, show mostN 5 = 9999999 from rfl] at HBT
          go_enter Tryd.func23, Tryd.ntmps23
          go_wp2_with fail
          refine (HBK.out _).mono ?_
          rintro e w' ⟨rfl, rfl⟩
          go_wp2
          go_quiet ((go_at_call 25; exact Calls.quiet_of_same (HAR.out _)))
          go_wp2_with fail
          refine (HBT.out _).mono ?_
          rintro e w' ⟨rfl, rfl⟩
          go_wp2
          go_loopw [5] (fun i wr => ∃ (j : Nat), i = .int .i64 j ∧ j ≤ args.length ∧ Hid (chkL (args.drop j) = T) ∧ Hid (Bel (w.alloc (.cells #[.int .i64 5, .int .i64 n, .slice A args.length c] 24)) wr)) (fun i _ => args.length - (intOf i).toNat)
          case atStart => exact ⟨0, rfl, by omega, by simpa using HT, (Bel.rfl_ _).drN _⟩
          case round =>
            obtain ⟨j, rfl, hj, HS, HB⟩ := hrel
            clear HT
            have z2 : wr.cell? ⟨w.heap.size, 2, none⟩ = some (.slice A args.length c) := ((Blk.new w 24 #[.int .i64 5, .int .i64 n, .slice A args.length c]).keep HB.out).cell rfl
            have HB1 := Lib.hid (((Bel.rfl_ w).al _).tr HB.out)
            by_cases hlt : j < args.length
            · obtain ⟨q, hq⟩ : ∃ e, args[j]? = some e := ⟨_, List.getElem?_eq_getElem hlt⟩
              obtain ⟨b, o, rfl, hA⟩ := HA.out (by omega)
              obtain ⟨B, mm, cc, hs, y0, y1, y2⟩ := askR.cells hA hq
              have y0 := HB1.out.cell y0
              have y1 := HB1.out.cell y1
              have y2 := HB1.out.cell y2
              have HQ := Lib.hid hq; have HSQ := Lib.hid (hs.keep HB1.out); clear hq hs hA HA
              generalize hk : q.kind = qk at *
              generalize hn : q.n = qn at *
              have HK := Lib.hid hk; have HN := Lib.hid hn; clear hk hn
              have HR : Hid ((if q.chk = 0 then chkL (args.drop (j + 1)) else q.chk) = T) := Lib.hid (by rw [← HS.out, chkL_drop HQ.out])
              go_wp2_with fail
              refine (HI.out q (List.mem_of_getElem? HQ.out) _ _ ⟨_, by rw [HK.out, HN.out], HSQ.out⟩).mono ?_
              rintro e w' ⟨rfl, hb⟩
              have HB' := Lib.hid (HB.out.tr hb); have HB2 := Lib.hid (HB1.out.tr hb); clear hb
              generalize q.chk = z at HR
              by_cases hz : z = 0
              · rw [if_pos hz] at HR
                go_wp2
                go_roundw
                case rel => exact ⟨j + 1, by go_num, by omega, HR, HB'⟩
                case measure => simp [intOf]; omega
              · rw [if_neg hz] at HR
                go_wp2
                go_ret
                exact ⟨by rw [← HR.out]; rfl, HB2.out⟩
            · have HR : Hid (0 = T) := Lib.hid (by rw [← HS.out, chkL_end (by omega)])
              go_wp2
              go_ret
              exact ⟨by rw [← HR.out]; rfl, HB1.out⟩
        by_cases hk6 : k = 6
        · subst hk6
          rw [show leastN 6 = -9999999 from rfl, show mostN 6 = 9999999 from rfl] at HBT
          go_enter Tryd.func23, Tryd.ntmps23
          go_wp2_with fail
          refine (HBK.out _).mono ?_
          rintro e w' ⟨rfl, rfl⟩
          go_wp2
          go_quiet ((go_at_call 25; exact Calls.quiet_of_same (HAR.out _)))
          go_wp2_with fail
          refine (HBT.out _).mono ?_
          rintro e w' ⟨rfl, rfl⟩
          go_wp2
          go_loopw [5] (fun i wr => ∃ (j : Nat), i = .int .i64 j ∧ j ≤ args.length ∧ Hid (chkL (args.drop j) = T) ∧ Hid (Bel (w.alloc (.cells #[.int .i64 6, .int .i64 n, .slice A args.length c] 24)) wr)) (fun i _ => args.length - (intOf i).toNat)
          case atStart => exact ⟨0, rfl, by omega, by simpa using HT, (Bel.rfl_ _).drN _⟩
          case round =>
            obtain ⟨j, rfl, hj, HS, HB⟩ := hrel
            clear HT
            have z2 : wr.cell? ⟨w.heap.size, 2, none⟩ = some (.slice A args.length c) := ((Blk.new w 24 #[.int .i64 6, .int .i64 n, .slice A args.length c]).keep HB.out).cell rfl
            have HB1 := Lib.hid (((Bel.rfl_ w).al _).tr HB.out)
            by_cases hlt : j < args.length
            · obtain ⟨q, hq⟩ : ∃ e, args[j]? = some e := ⟨_, List.getElem?_eq_getElem hlt⟩
              obtain ⟨b, o, rfl, hA⟩ := HA.out (by omega)
              obtain ⟨B, mm, cc, hs, y0, y1, y2⟩ := askR.cells hA hq
              have y0 := HB1.out.cell y0
              have y1 := HB1.out.cell y1
              have y2 := HB1.out.cell y2
              have HQ := Lib.hid hq; have HSQ := Lib.hid (hs.keep HB1.out); clear hq hs hA HA
              generalize hk : q.kind = qk at *
              generalize hn : q.n = qn at *
              have HK := Lib.hid hk; have HN := Lib.hid hn; clear hk hn
              have HR : Hid ((if q.chk = 0 then chkL (args.drop (j + 1)) else q.chk) = T) := Lib.hid (by rw [← HS.out, chkL_drop HQ.out])
              go_wp2_with fail
              refine (HI.out q (List.mem_of_getElem? HQ.out) _ _ ⟨_, by rw [HK.out, HN.out], HSQ.out⟩).mono ?_
              rintro e w' ⟨rfl, hb⟩
              have HB' := Lib.hid (HB.out.tr hb); have HB2 := Lib.hid (HB1.out.tr hb); clear hb
              generalize q.chk = z at HR
              by_cases hz : z = 0
              · rw [if_pos hz] at HR
                go_wp2
                go_roundw
                case rel => exact ⟨j + 1, by go_num, by omega, HR, HB'⟩
                case measure => simp [intOf]; omega
              · rw [if_neg hz] at HR
                go_wp2
                go_ret
                exact ⟨by rw [← HR.out]; rfl, HB2.out⟩
            · have HR : Hid (0 = T) := Lib.hid (by rw [← HS.out, chkL_end (by omega)])
              go_wp2
              go_ret
              exact ⟨by rw [← HR.out]; rfl, HB1.out⟩
        by_cases hk14 : k = 14
        · subst hk14
          rw [show leastN 14 = 0 from rfl, show mostN 14 = 4000 from rfl] at HBT
          go_enter Tryd.func23, Tryd.ntmps23
          go_wp2_with fail
          refine (HBK.out _).mono ?_
          rintro e w' ⟨rfl, rfl⟩
          go_wp2
          go_quiet ((go_at_call 25; exact Calls.quiet_of_same (HAR.out _)))
          go_wp2_with fail
          refine (HBT.out _).mono ?_
          rintro e w' ⟨rfl, rfl⟩
          go_wp2
          go_loopw [5] (fun i wr => ∃ (j : Nat), i = .int .i64 j ∧ j ≤ args.length ∧ Hid (chkL (args.drop j) = T) ∧ Hid (Bel (w.alloc (.cells #[.int .i64 14, .int .i64 n, .slice A args.length c] 24)) wr)) (fun i _ => args.length - (intOf i).toNat)
          case atStart => exact ⟨0, rfl, by omega, by simpa using HT, (Bel.rfl_ _).drN _⟩
          case round =>
            obtain ⟨j, rfl, hj, HS, HB⟩ := hrel
            clear HT
            have z2 : wr.cell? ⟨w.heap.size, 2, none⟩ = some (.slice A args.length c) := ((Blk.new w 24 #[.int .i64 14, .int .i64 n, .slice A args.length c]).keep HB.out).cell rfl
            have HB1 := Lib.hid (((Bel.rfl_ w).al _).tr HB.out)
            by_cases hlt : j < args.length
            · obtain ⟨q, hq⟩ : ∃ e, args[j]? = some e := ⟨_, List.getElem?_eq_getElem hlt⟩
              obtain ⟨b, o, rfl, hA⟩ := HA.out (by omega)
              obtain ⟨B, mm, cc, hs, y0, y1, y2⟩ := askR.cells hA hq
              have y0 := HB1.out.cell y0
              have y1 := HB1.out.cell y1
              have y2 := HB1.out.cell y2
              have HQ := Lib.hid hq; have HSQ := Lib.hid (hs.keep HB1.out); clear hq hs hA HA
              generalize hk : q.kind = qk at *
              generalize hn : q.n = qn at *
              have HK := Lib.hid hk; have HN := Lib.hid hn; clear hk hn
              have HR : Hid ((if q.chk = 0 then chkL (args.drop (j + 1)) else q.chk) = T) := Lib.hid (by rw [← HS.out, chkL_drop HQ.out])
              go_wp2_with fail
              refine (HI.out q (List.mem_of_getElem? HQ.out) _ _ ⟨_, by rw [HK.out, HN.out], HSQ.out⟩).mono ?_
              rintro e w' ⟨rfl, hb⟩
              have HB' := Lib.hid (HB.out.tr hb); have HB2 := Lib.hid (HB1.out.tr hb); clear hb
              generalize q.chk = z at HR
              by_cases hz : z = 0
              · rw [if_pos hz] at HR
                go_wp2
                go_roundw
                case rel => exact ⟨j + 1, by go_num, by omega, HR, HB'⟩
                case measure => simp [intOf]; omega
              · rw [if_neg hz] at HR
                go_wp2
                go_ret
                exact ⟨by rw [← HR.out]; rfl, HB2.out⟩
            · have HR : Hid (0 = T) := Lib.hid (by rw [← HS.out, chkL_end (by omega)])
              go_wp2
              go_ret
              exact ⟨by rw [← HR.out]; rfl, HB1.out⟩
        rw [(inLeast k ⟨hk1, hk2, hk3, hk5, hk6, hk14⟩).1, (inLeast k ⟨hk1, hk2, hk3, hk5, hk6, hk14⟩).2] at HBT
        go_enter Tryd.func23, Tryd.ntmps23
        go_wp2_with fail
        refine (HBK.out _).mono ?_
        rintro e w' ⟨rfl, rfl⟩
        go_wp2
        go_quiet ((go_at_call 25; exact Calls.quiet_of_same (HAR.out _)))
        go_wp2_with fail
        refine (HBT.out _).mono ?_
        rintro e w' ⟨rfl, rfl⟩
        go_wp2
        go_loopw [5] (fun i wr => ∃ (j : Nat), i = .int .i64 j ∧ j ≤ args.length ∧ Hid (chkL (args.drop j) = T) ∧ Hid (Bel (w.alloc (.cells #[.int .i64 k, .int .i64 n, .slice A args.length c] 24)) wr)) (fun i _ => args.length - (intOf i).toNat)
        case atStart => exact ⟨0, rfl, by omega, by simpa using HT, (Bel.rfl_ _).drN _⟩
        case round =>
          obtain ⟨j, rfl, hj, HS, HB⟩ := hrel
          clear HT
          have z2 : wr.cell? ⟨w.heap.size, 2, none⟩ = some (.slice A args.length c) := ((Blk.new w 24 #[.int .i64 k, .int .i64 n, .slice A args.length c]).keep HB.out).cell rfl
          have HB1 := Lib.hid (((Bel.rfl_ w).al _).tr HB.out)
          by_cases hlt : j < args.length
          · obtain ⟨q, hq⟩ : ∃ e, args[j]? = some e := ⟨_, List.getElem?_eq_getElem hlt⟩
            obtain ⟨b, o, rfl, hA⟩ := HA.out (by omega)
            obtain ⟨B, mm, cc, hs, y0, y1, y2⟩ := askR.cells hA hq
            have y0 := HB1.out.cell y0
            have y1 := HB1.out.cell y1
            have y2 := HB1.out.cell y2
            have HQ := Lib.hid hq; have HSQ := Lib.hid (hs.keep HB1.out); clear hq hs hA HA
            generalize hk : q.kind = qk at *
            generalize hn : q.n = qn at *
            have HK := Lib.hid hk; have HN := Lib.hid hn; clear hk hn
            have HR : Hid ((if q.chk = 0 then chkL (args.drop (j + 1)) else q.chk) = T) := Lib.hid (by rw [← HS.out, chkL_drop HQ.out])
            go_wp2_with fail
            refine (HI.out q (List.mem_of_getElem? HQ.out) _ _ ⟨_, by rw [HK.out, HN.out], HSQ.out⟩).mono ?_
            rintro e w' ⟨rfl, hb⟩
            have HB' := Lib.hid (HB.out.tr hb); have HB2 := Lib.hid (HB1.out.tr hb); clear hb
            generalize q.chk = z at HR
            by_cases hz : z = 0
            · rw [if_pos hz] at HR
              go_wp2
              go_roundw
              case rel => exact ⟨j + 1, by go_num, by omega, HR, HB'⟩
              case measure => simp [intOf]; omega
            · rw [if_neg hz] at HR
              go_wp2
              go_ret
              exact ⟨by rw [← HR.out]; rfl, HB2.out⟩
          · have HR : Hid (0 = T) := Lib.hid (by rw [← HS.out, chkL_end (by omega)])
            go_wp2
            go_ret
            exact ⟨by rw [← HR.out]; rfl, HB1.out⟩
    · rw [if_neg h2] at HT
      have h2' : ((args.length : Int) != arity k) = true := by simpa using h2
      generalize arity k = a at *
      go_enter Tryd.func23, Tryd.ntmps23
      go_wp2_with fail
      refine (HBK.out _).mono ?_
      rintro e w' ⟨rfl, rfl⟩
      go_wp2
      go_quiet ((go_at_call 25; exact Calls.quiet_of_same (HAR.out _)))
      go_wp2
      go_ret
      exact ⟨by rw [← HT.out]; rfl, ((Bel.rfl_ w).al _).drN _⟩
  · rw [if_neg h1] at HT
    rw [decide_eq_false h1] at HBK
    go_enter Tryd.func23, Tryd.ntmps23
    go_wp2_with fail
    refine (HBK.out _).mono ?_
    rintro e w' ⟨rfl, rfl⟩
    go_wp2
    go_ret
    exact ⟨by rw [← HT.out]; rfl, (Bel.rfl_ w).al _⟩

theorem askCheck_any : ∀ (q : Ask) (val : Value) (w : World), AskV w q val →
    Calls Tryd.prog 23 #[val] w fun r w' => r = .returned (.int .i64 q.chk) ∧ Bel w w' :=
  Ask.ind fun k n args ih val w h => askCheck_step k n args ih val w h

set_option maxRecDepth 20000 in
theorem checkAsk_any (q : Ask) (val : Value) (w : World) (h : AskV w q val) :
    Calls Tryd.prog 9 #[val] w fun r w' => r = .returned (.int .i64 q.err) ∧ Bel w w' := by
  have HS := Lib.hid (fun val W h => askParts_any q 15 val W (by omega) (by omega) h)
  have HP := Lib.hid (fun val W h => askCheck_any q val W h)
  have HT : Hid ((if 15 < q.size 15 then 2 else q.chk) = q.err) := Lib.hid rfl
  generalize q.err = T at HT ⊢
  have HH := Lib.hid h
  obtain ⟨v, rfl, hsl⟩ := h
  obtain ⟨A, c, rfl, -⟩ := hsl
  have hsz := Ask.size_le q 15 (by omega)
  generalize q.size 15 = z at *
  go_enter Tryd.func9, Tryd.ntmps9
  go_wp2_with fail
  refine (HS.out _ _ (HH.out.keep ((Bel.rfl_ w).al _))).mono ?_
  rintro e w1 ⟨rfl, hb⟩
  have HB := Lib.hid (((Bel.rfl_ w).al _).tr hb)
  have HH1 := Lib.hid (HH.out.keep HB.out)
  have z0 : w1.cell? ⟨w.heap.size, 0, none⟩ = some (.int .i64 q.kind) := ((Blk.new w 24 #[.int .i64 q.kind, .int .i64 q.n, .slice A q.args.length c]).keep hb).cell rfl
  have z1 : w1.cell? ⟨w.heap.size, 1, none⟩ = some (.int .i64 q.n) := ((Blk.new w 24 #[.int .i64 q.kind, .int .i64 q.n, .slice A q.args.length c]).keep hb).cell rfl
  have z2 : w1.cell? ⟨w.heap.size, 2, none⟩ = some (.slice A q.args.length c) := ((Blk.new w 24 #[.int .i64 q.kind, .int .i64 q.n, .slice A q.args.length c]).keep hb).cell rfl
  clear hb
  by_cases hz : 15 < z
  · rw [if_pos hz] at HT
    go_wp2
    go_ret
    exact ⟨by rw [← HT.out]; rfl, HB.out⟩
  · rw [if_neg hz] at HT
    go_wp2_with fail
    refine (HP.out _ _ HH1.out).mono ?_
    rintro e w2 ⟨rfl, hb⟩
    go_wp2
    go_ret
    exact ⟨by rw [← HT.out]; rfl, HB.out.tr hb⟩

end Go.Proofs.YtegknpffiaeohaaDoor
