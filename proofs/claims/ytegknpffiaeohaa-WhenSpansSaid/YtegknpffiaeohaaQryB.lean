/- How many parts a query has: both counts walked. Each lemma states its own conditions. -/
import Derived.Test.YtegknpffiaeohaaQryA
import Derived.Test.YtegknpffiaeohaaOwn
namespace Go.Proofs.Ytegknpffiaeohaa
open Go.RowKit

set_option maxRecDepth 20000 in
theorem size_step (k n : Int) (args : List Ask) (IH : ∀ x ∈ args, ∀ (m : Int) (val : Value) (W : World), 0 ≤ m → m ≤ 15 → AskV W x val →
      Calls Try.prog 58 #[val, .int .i64 m] W fun r w' => r = .returned (.int .i64 (x.size m)) ∧ Bel W w')
    (m : Int) (val : Value) (w : World) (h0 : 0 ≤ m) (h15 : m ≤ 15) (h : AskV w (.mk k n args) val) :
    Calls Try.prog 58 #[val, .int .i64 m] w fun r w' => r = .returned (.int .i64 ((Ask.mk k n args).size m)) ∧ Bel w w' := by
  obtain ⟨v, rfl, A, c, rfl, hc, hm, hA⟩ := h
  have HI := Lib.hid IH; clear IH
  have HA := Lib.hid hA; clear hA
  have HT : Hid (sizeL args 1 m = (Ask.mk k n args).size m) := Lib.hid (by rw [Ask.size])
  generalize (Ask.mk k n args).size m = T at HT ⊢
  have hlm : args.length ≤ 9223372036854775807 := by have := hm.1; simp only [maxLen] at this; simp only [Ask.args] at hc; omega
  simp only [Ask.kind, Ask.n, Ask.args] at HA hc ⊢
  clear hm
  go_enter Try.func58, Try.ntmps58
  go_wp2
  go_loopw [5, 11] (fun a i wr => ∃ (j : Nat) (x : Int), a = .int .i64 x ∧ i = .int .i64 j ∧ j ≤ args.length ∧ 1 ≤ x ∧ x ≤ m + 1 ∧ Hid (sizeL (args.drop j) x m = T) ∧ Hid (Bel w wr)) (fun _ i _ => args.length - (intOf i).toNat)
  case atStart => exact ⟨0, 1, rfl, rfl, by omega, by omega, by omega, by simpa using HT, (Bel.rfl_ w).al _⟩
  case round =>
    obtain ⟨j, x, rfl, rfl, hj, hx1, hx2, HS, HB⟩ := hrel
    clear HT
    by_cases hlt : j < args.length
    · obtain ⟨q, hq⟩ : ∃ e, args[j]? = some e := ⟨_, List.getElem?_eq_getElem hlt⟩
      obtain ⟨b, o, rfl, hA⟩ := HA.out (by omega)
      obtain ⟨B, mm, cc, hs, y0, y1, y2⟩ := askR.cells hA hq
      have y0 := HB.out.cell y0
      have y1 := HB.out.cell y1
      have y2 := HB.out.cell y2
      have HQ := Lib.hid hq; have HSL := Lib.hid (hs.keep HB.out); clear hq hs hA HA
      generalize hk : q.kind = qk at *
      generalize hn : q.n = qn at *
      have HK := Lib.hid hk; have HN := Lib.hid hn; clear hk hn
      by_cases hmx : m < x
      · have HR : Hid (x = T) := Lib.hid (by have := HS.out; rw [sizeL_drop HQ.out, if_pos hmx] at this; exact this)
        go_wp2
        go_ret
        exact ⟨by rw [HR.out]; rfl, HB.out.al _⟩
      · have HR : Hid (sizeL (args.drop (j + 1)) (x + q.size (m - x)) m = T) := Lib.hid (by have := HS.out; rw [sizeL_drop HQ.out, if_neg hmx] at this; exact this)
        have hle := Ask.size_le q (m - x) (by omega)
        go_wp2_with fail
        refine (HI.out q (List.mem_of_getElem? HQ.out) (m - x) _ _ (by omega) (by omega) ⟨_, by rw [HK.out, HN.out], HSL.out.keep ((Bel.rfl_ _).al _)⟩).mono ?_
        rintro e w' ⟨rfl, hb⟩
        have HB' := Lib.hid ((HB.out.al _).tr hb); clear hb
        generalize q.size (m - x) = z at hle HR
        go_wp2
        go_roundw
        case rel => exact ⟨j + 1, x + z, by go_num, by go_num, by omega, by omega, by omega, HR, HB'⟩
        case measure => simp [intOf]; omega
    · have HR : Hid (x = T) := Lib.hid (by have := HS.out; rw [sizeL_end (by omega)] at this; exact this)
      go_wp2
      go_ret
      exact ⟨by rw [HR.out]; rfl, HB.out⟩

theorem size_any : ∀ (q : Ask) (m : Int) (val : Value) (w : World), 0 ≤ m → m ≤ 15 → AskV w q val →
    Calls Try.prog 58 #[val, .int .i64 m] w fun r w' => r = .returned (.int .i64 (q.size m)) ∧ Bel w w' :=
  Ask.ind fun k n args ih m val w h0 h15 h => size_step k n args ih m val w h0 h15 h

set_option maxRecDepth 20000 in
theorem askParts_step (k n : Int) (args : List Ask) (IH : ∀ x ∈ args, ∀ (m : Int) (val : Value) (W : World), 0 ≤ m → m ≤ 15 → AskV W x val →
      Calls Try.prog 31 #[val, .int .i64 m] W fun r w' => r = .returned (.int .i64 (x.size m)) ∧ Bel W w')
    (m : Int) (val : Value) (w : World) (h0 : 0 ≤ m) (h15 : m ≤ 15) (h : AskV w (.mk k n args) val) :
    Calls Try.prog 31 #[val, .int .i64 m] w fun r w' => r = .returned (.int .i64 ((Ask.mk k n args).size m)) ∧ Bel w w' := by
  obtain ⟨v, rfl, A, c, rfl, hc, hm, hA⟩ := h
  have HI := Lib.hid IH; clear IH
  have HA := Lib.hid hA; clear hA
  have HT : Hid (sizeL args 1 m = (Ask.mk k n args).size m) := Lib.hid (by rw [Ask.size])
  generalize (Ask.mk k n args).size m = T at HT ⊢
  have hlm : args.length ≤ 9223372036854775807 := by have := hm.1; simp only [maxLen] at this; simp only [Ask.args] at hc; omega
  simp only [Ask.kind, Ask.n, Ask.args] at HA hc ⊢
  clear hm
  go_enter Try.func31, Try.ntmps31
  go_wp2
  go_loopw [5, 6] (fun a i wr => ∃ (j : Nat) (x : Int), a = .int .i64 x ∧ i = .int .i64 j ∧ j ≤ args.length ∧ 1 ≤ x ∧ x ≤ m + 1 ∧ Hid (sizeL (args.drop j) x m = T) ∧ Hid (Bel (w.alloc (.cells #[.int .i64 k, .int .i64 n, .slice A args.length c] 37)) wr)) (fun _ i _ => args.length - (intOf i).toNat)
  case atStart => exact ⟨0, 1, rfl, rfl, by omega, by omega, by omega, by simpa using HT, Bel.rfl_ _⟩
  case round =>
    obtain ⟨j, x, rfl, rfl, hj, hx1, hx2, HS, HB⟩ := hrel
    clear HT
    have z2 : wr.cell? ⟨w.heap.size, 2, none⟩ = some (.slice A args.length c) := ((Blk.new w 37 #[.int .i64 k, .int .i64 n, .slice A args.length c]).keep HB.out).cell rfl
    have HB1 := Lib.hid (((Bel.rfl_ w).al _).tr HB.out)
    by_cases hlt : j < args.length
    · obtain ⟨q, hq⟩ : ∃ e, args[j]? = some e := ⟨_, List.getElem?_eq_getElem hlt⟩
      obtain ⟨b, o, rfl, hA⟩ := HA.out (by omega)
      obtain ⟨B, mm, cc, hs, y0, y1, y2⟩ := askR.cells hA hq
      have y0 := HB1.out.cell y0
      have y1 := HB1.out.cell y1
      have y2 := HB1.out.cell y2
      have HQ := Lib.hid hq; have HSL := Lib.hid (hs.keep HB1.out); clear hq hs hA HA
      generalize hk : q.kind = qk at *
      generalize hn : q.n = qn at *
      have HK := Lib.hid hk; have HN := Lib.hid hn; clear hk hn
      by_cases hmx : m < x
      · have HR : Hid (x = T) := Lib.hid (by have := HS.out; rw [sizeL_drop HQ.out, if_pos hmx] at this; exact this)
        go_wp2
        go_ret
        exact ⟨by rw [HR.out]; rfl, HB1.out⟩
      · have HR : Hid (sizeL (args.drop (j + 1)) (x + q.size (m - x)) m = T) := Lib.hid (by have := HS.out; rw [sizeL_drop HQ.out, if_neg hmx] at this; exact this)
        have hle := Ask.size_le q (m - x) (by omega)
        have hxm : x ≤ m := by omega
        go_wp2_with fail
        refine (HI.out q (List.mem_of_getElem? HQ.out) (m - x) _ _ (by omega) (by omega) ⟨_, by rw [HK.out, HN.out], HSL.out⟩).mono ?_
        rintro e w' ⟨rfl, hb⟩
        have HB' := Lib.hid (HB.out.tr hb); clear hb
        generalize q.size (m - x) = z at hle HR
        go_wp2
        go_roundw
        case rel => exact ⟨j + 1, x + z, by go_num, by go_num, by omega, by omega, by omega, HR, HB'⟩
        case measure => simp [intOf]; omega
    · have HR : Hid (x = T) := Lib.hid (by have := HS.out; rw [sizeL_end (by omega)] at this; exact this)
      go_wp2
      go_ret
      exact ⟨by rw [HR.out]; rfl, HB1.out⟩

theorem askParts_any : ∀ (q : Ask) (m : Int) (val : Value) (w : World), 0 ≤ m → m ≤ 15 → AskV w q val →
    Calls Try.prog 31 #[val, .int .i64 m] w fun r w' => r = .returned (.int .i64 (q.size m)) ∧ Bel w w' :=
  Ask.ind fun k n args ih m val w h0 h15 h => askParts_step k n args ih m val w h0 h15 h

end Go.Proofs.Ytegknpffiaeohaa
