/- What is wrong with a query: both checks walked. Each lemma states its own conditions. -/
import Derived.Test.YtegknpffiaeohaaQryB
namespace Go.Proofs.Ytegknpffiaeohaa
open Go.RowKit

theorem arity_cases (k : Int) : arity k = 0 ∨ arity k = 1 ∨ arity k = 2 := by
  unfold arity
  split
  · exact .inl rfl
  · split
    · exact .inr (.inr rfl)
    · exact .inr (.inl rfl)

theorem number_mk (k n : Int) (args : List Ask) (val : Value) (w : World) (h : AskV w (.mk k n args) val) : Calls Try.prog 76 #[val] w fun r w' => r = .returned (.bool (decide (leastN k ≤ n ∧ n ≤ mostN k))) ∧ Bel w w' :=
  number_any (.mk k n args) val w h

set_option maxRecDepth 20000 in
theorem parts_step (k n : Int) (args : List Ask) (IH : ∀ x ∈ args, ∀ (val : Value) (W : World), AskV W x val →
      Calls Try.prog 59 #[val] W fun r w' => r = .returned (.int .i64 x.chk) ∧ Bel W w')
    (val : Value) (w : World) (h : AskV w (.mk k n args) val) :
    Calls Try.prog 59 #[val] w fun r w' => r = .returned (.int .i64 (Ask.mk k n args).chk) ∧ Bel w w' := by
  obtain ⟨v, rfl, hsl⟩ := h
  have HSL := Lib.hid hsl
  obtain ⟨A, c, rfl, hc, hm, hA⟩ := hsl
  have HI := Lib.hid IH; clear IH
  have HA := Lib.hid hA; clear hA
  have HT : Hid ((if 1 ≤ k ∧ k ≤ 14 then if (args.length : Int) = arity k then if leastN k ≤ n ∧ n ≤ mostN k then chkL args else 3 else 1 else 7) = (Ask.mk k n args).chk) := Lib.hid (by rw [Ask.chk])
  generalize (Ask.mk k n args).chk = T at HT ⊢
  have hlm : args.length ≤ 9223372036854775807 := by have := hm.1; simp only [maxLen] at this; simp only [Ask.args] at hc; omega
  simp only [Ask.kind, Ask.n, Ask.args] at HA hc HSL ⊢
  clear hm
  have HAR := Lib.hid (args_any k)
  have har := arity_cases k
  have HN := Lib.hid (fun W val h => number_mk k n args val W h)
  by_cases h1 : 1 ≤ k ∧ k ≤ 14
  · rw [if_pos h1] at HAR HT
    have H1 := Lib.hid h1; clear h1
    generalize arity k = a at *
    by_cases h2 : (args.length : Int) = a
    · rw [if_pos h2] at HT
      cases h3 : decide (leastN k ≤ n ∧ n ≤ mostN k) with
      | false =>
        rw [h3] at HN
        rw [if_neg (of_decide_eq_false h3)] at HT
        clear h3
        go_enter Try.func59, Try.ntmps59
        go_wp2_with fail
        refine (HAR.out _).mono ?_
        rintro e w' ⟨rfl, rfl⟩
        go_wp2_with fail
        refine (HN.out _ _ ⟨_, rfl, HSL.out.keep ((Bel.rfl_ w).al _)⟩).mono ?_
        rintro e w' ⟨rfl, hb⟩
        have HB := Lib.hid (((Bel.rfl_ w).al _).tr hb); clear hb
        go_wp2
        go_ret
        exact ⟨by rw [← HT.out]; rfl, HB.out⟩
      | true =>
        rw [h3] at HN
        rw [if_pos (of_decide_eq_true h3)] at HT
        clear h3
        go_enter Try.func59, Try.ntmps59
        go_wp2_with fail
        refine (HAR.out _).mono ?_
        rintro e w' ⟨rfl, rfl⟩
        go_wp2_with fail
        refine (HN.out _ _ ⟨_, rfl, HSL.out.keep ((Bel.rfl_ w).al _)⟩).mono ?_
        rintro e w' ⟨rfl, hb⟩
        have HB0 := Lib.hid (((Bel.rfl_ w).al _).tr hb)
        have z2 : w'.cell? ⟨w.heap.size, 2, none⟩ = some (.slice A args.length c) := ((Blk.new w 37 #[.int .i64 k, .int .i64 n, .slice A args.length c]).keep hb).cell rfl
        clear hb
        go_wp2
        go_loopw [26] (fun i wr => ∃ (j : Nat), i = .int .i64 j ∧ j ≤ args.length ∧ Hid (chkL (args.drop j) = T) ∧ Hid (Bel w wr)) (fun i _ => args.length - (intOf i).toNat)
        case atStart => exact ⟨0, rfl, by omega, by simpa using HT, HB0⟩
        case round =>
          obtain ⟨j, rfl, hj, HS, HB⟩ := hrel
          clear HT
          by_cases hlt : j < args.length
          · obtain ⟨q, hq⟩ : ∃ e, args[j]? = some e := ⟨_, List.getElem?_eq_getElem hlt⟩
            obtain ⟨b, o, rfl, hA⟩ := HA.out (by omega)
            obtain ⟨B, mm, cc, hs, y0, y1, y2⟩ := askR.cells hA hq
            have y0 := HB.out.cell y0
            have y1 := HB.out.cell y1
            have y2 := HB.out.cell y2
            have HQ := Lib.hid hq; have HSQ := Lib.hid (hs.keep HB.out); clear hq hs hA HA
            generalize hk : q.kind = qk at *
            generalize hn : q.n = qn at *
            have HK := Lib.hid hk; have HN := Lib.hid hn; clear hk hn
            have HR : Hid ((if q.chk = 0 then chkL (args.drop (j + 1)) else q.chk) = T) := Lib.hid (by rw [← HS.out, chkL_drop HQ.out])
            go_wp2_with fail
            refine (HI.out q (List.mem_of_getElem? HQ.out) _ _ ⟨_, by rw [HK.out, HN.out], HSQ.out.keep ((Bel.rfl_ _).al _)⟩).mono ?_
            rintro e w' ⟨rfl, hb⟩
            have HB' := Lib.hid ((HB.out.al _).tr hb); clear hb
            generalize q.chk = z at HR
            by_cases hz : z = 0
            · rw [if_pos hz] at HR
              go_wp2
              go_roundw
              case rel => exact ⟨j + 1, by go_num, by omega, HR, HB'⟩
              case measure => simp [intOf]; omega
            · rw [if_neg hz] at HR
              go_wp2
              go_ret
              exact ⟨by rw [← HR.out]; rfl, HB'.out⟩
          · have HR : Hid (0 = T) := Lib.hid (by rw [← HS.out, chkL_end (by omega)])
            go_wp2
            go_ret
            exact ⟨by rw [← HR.out]; rfl, HB.out⟩
    · rw [if_neg h2] at HT
      go_enter Try.func59, Try.ntmps59
      go_wp2_with fail
      refine (HAR.out _).mono ?_
      rintro e w' ⟨rfl, rfl⟩
      go_wp2
      go_ret
      exact ⟨by rw [← HT.out]; rfl, (Bel.rfl_ w).al _⟩
  · rw [if_neg h1] at HAR HT
    go_enter Try.func59, Try.ntmps59
    go_wp2_with fail
    refine (HAR.out _).mono ?_
    rintro e w' ⟨rfl, rfl⟩
    go_wp2
    go_ret
    exact ⟨by rw [← HT.out]; rfl, (Bel.rfl_ w).al _⟩

theorem parts_any : ∀ (q : Ask) (val : Value) (w : World), AskV w q val →
    Calls Try.prog 59 #[val] w fun r w' => r = .returned (.int .i64 q.chk) ∧ Bel w w' :=
  Ask.ind fun k n args ih val w h => parts_step k n args ih val w h

set_option maxRecDepth 20000 in
theorem check_any (q : Ask) (val : Value) (w : World) (h : AskV w q val) :
    Calls Try.prog 48 #[val] w fun r w' => r = .returned (.int .i64 q.err) ∧ Bel w w' := by
  have HS := Lib.hid (fun val W h => size_any q 15 val W (by omega) (by omega) h)
  have HP := Lib.hid (fun val W h => parts_any q val W h)
  have HT : Hid ((if 15 < q.size 15 then 2 else q.chk) = q.err) := Lib.hid rfl
  generalize q.err = T at HT ⊢
  have HH := Lib.hid h
  obtain ⟨v, rfl, hsl⟩ := h
  obtain ⟨A, c, rfl, -⟩ := hsl
  have hsz := Ask.size_le q 15 (by omega)
  generalize q.size 15 = z at *
  go_enter Try.func48, Try.ntmps48
  go_wp2_with fail
  refine (HS.out _ _ (HH.out.keep ((Bel.rfl_ w).al _))).mono ?_
  rintro e w1 ⟨rfl, hb⟩
  have HB := Lib.hid (((Bel.rfl_ w).al _).tr hb)
  have HH1 := Lib.hid (HH.out.keep HB.out)
  have z0 : w1.cell? ⟨w.heap.size, 0, none⟩ = some (.int .i64 q.kind) := ((Blk.new w 37 #[.int .i64 q.kind, .int .i64 q.n, .slice A q.args.length c]).keep hb).cell rfl
  have z1 : w1.cell? ⟨w.heap.size, 1, none⟩ = some (.int .i64 q.n) := ((Blk.new w 37 #[.int .i64 q.kind, .int .i64 q.n, .slice A q.args.length c]).keep hb).cell rfl
  have z2 : w1.cell? ⟨w.heap.size, 2, none⟩ = some (.slice A q.args.length c) := ((Blk.new w 37 #[.int .i64 q.kind, .int .i64 q.n, .slice A q.args.length c]).keep hb).cell rfl
  clear hb
  by_cases hz : 15 < z
  · rw [if_pos hz] at HT
    go_wp2
    go_ret
    exact ⟨by rw [← HT.out]; rfl, HB.out⟩
  · rw [if_neg hz] at HT
    go_wp2_with fail
    refine (HP.out _ _ HH1.out).mono ?_
    rintro e w2 ⟨rfl, hb⟩
    go_wp2
    go_ret
    exact ⟨by rw [← HT.out]; rfl, HB.out.tr hb⟩

end Go.Proofs.Ytegknpffiaeohaa
