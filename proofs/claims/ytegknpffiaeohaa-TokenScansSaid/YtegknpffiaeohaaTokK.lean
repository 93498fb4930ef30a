/- The program's Join computes what is joined. Each lemma states its own conditions. -/
import Derived.Test.YtegknpffiaeohaaTokI
namespace Go.Proofs.Ytegknpffiaeohaa
open Go.RowKit

theorem Blk.tok {w w' : World} {e : Tok} (hb : Bel (w.alloc (.cells #[.int .i64 e.kind, .int .i64 e.at_, .string e.text] 34)) w') :
    w'.cell? ⟨w.heap.size, 0, none⟩ = some (.int .i64 e.kind) ∧ w'.cell? ⟨w.heap.size, 2, none⟩ = some (.string e.text) :=
  let h := (Blk.new w 34 #[.int .i64 e.kind, .int .i64 e.at_, .string e.text]).keep hb
  ⟨h.cell rfl, h.cell rfl⟩

set_option maxRecDepth 20000 in
set_option maxHeartbeats 1000000 in
theorem join_any (v : Value) (l : List Tok) (w : World) (h : Sl tokR w v l) (hl : l.length ≤ 4398046511104) (ht : ∀ t ∈ l, t.text.size ≤ maxLen) :
    Calls Try.prog 13 #[v] w fun r w' => r = .returned (.tuple #[.string (joinOf l).1, .int .i64 (joinOf l).2]) ∧ Bel w w' := by
  obtain ⟨A, c, rfl, hc, hm, hA⟩ := h
  have HA := Lib.hid hA; clear hA
  have HM := Lib.hid ht; clear ht
  go_enter Try.func13, Try.ntmps13
  go_wp2
  go_loopw [4, 5, 10] (fun v m i wr => ∃ (k : Nat) (y : Int), k ≤ l.length ∧ i = .int .i64 k ∧ m = .int .i64 y ∧ Hid (y = (joinN (l.take k) : Int) ∧ joinN (l.take k) ≤ 6001 * k) ∧ (0 ≤ y ∧ y ≤ 26392677113135104) ∧ Hid (allTok (l.take k) = true) ∧ Hid (wr.ownsRow w.heap.size 9 1 v k (((l.take k).map Tok.text).map Value.string)) ∧ Hid (Bel w wr)) (fun _ _ i _ => l.length - (intOf i).toNat)
  case atStart => exact ⟨0, 0, by omega, rfl, rfl, ⟨by simp [joinN], by simp [joinN]⟩, by omega, rfl, World.ownsRow_nil _ _ _ _, Bel.rfl_ w⟩
  case round =>
    obtain ⟨k, y, hk, rfl, rfl, HY, hyb, HT, HO, HB⟩ := hrel
    by_cases hlt : k < l.length
    · obtain ⟨e, he⟩ : ∃ e, l[k]? = some e := ⟨_, List.getElem?_eq_getElem hlt⟩
      obtain ⟨ab, ao, rfl, hA⟩ := HA.out (by omega)
      obtain ⟨x0, x1, x2⟩ := TokAtC.keep HB.out (tokR.cells hA he)
      have hts := HM.out e (List.mem_of_getElem? he)
      clear hA HA HM
      have HIT := Lib.hid (fun W => one_any e.kind e.text W hts)
      have HE := Lib.hid he; clear he
      have HTK := Lib.hid (take_snoc HE.out)
      have HB7 := Lib.hid (HB.out.al (.cells #[.int .i64 e.kind, .int .i64 e.at_, .string e.text] 34))
      have HO7 := Lib.hid (((Bel.rfl_ wr).al (.cells #[.int .i64 e.kind, .int .i64 e.at_, .string e.text] 34)).own HO.out)
      cases hti : isTok e.kind e.text with
      | false =>
        rw [hti] at HIT
        have HF : Hid (joinOf l = (emp, 1)) := Lib.hid (by unfold joinOf; rw [if_neg (by simp [allTok_take HE.out hti])])
        clear hti hts
        go_wp2_with fail
        refine (HIT.out _).mono ?_
        rintro e2 w2 ⟨rfl, hb2⟩
        have HB2 := Lib.hid (HB7.out.tr hb2)
        clear hb2
        go_wp2
        go_ret2
        exact ⟨by rw [HF.out]; rfl, HB2.out⟩
      | true =>
        rw [hti] at HIT
        have h6 := (isTok_iff.1 hti).1
        have HYN : Hid (y + (1 + (e.text.size : Int)) = (joinN (l.take (k + 1)) : Int) ∧ joinN (l.take (k + 1)) ≤ 6001 * (k + 1)) := Lib.hid (by
          have h1 := HY.out
          have h2 := HTK.out
          have h3 := joinN_snoc (l.take k) e
          rw [← h2] at h3
          omega)
        have HAT : Hid (allTok (l.take (k + 1)) = true) := Lib.hid (by rw [HTK.out, allTok_snoc, HT.out, hti]; rfl)
        have hyb2 : Hid (0 ≤ y + (1 + (e.text.size : Int)) ∧ y + (1 + (e.text.size : Int)) ≤ 26392677113135104) := Lib.hid (by have := HYN.out; omega)
        have hyo := hyb2.out
        clear hti hts
        go_wp2_with fail
        refine (HIT.out _).mono ?_
        rintro e2 w2 ⟨rfl, hb2⟩
        have HB2 := Lib.hid (HB7.out.tr hb2)
        have HO2 := Lib.hid (hb2.own HO7.out)
        obtain ⟨z0, z2⟩ := Blk.tok hb2
        have HK2 := Lib.hid ((Blk.new wr 34 #[.int .i64 e.kind, .int .i64 e.at_, .string e.text]).keep hb2)
        clear hb2 HB7 HO7 x0 x1 x2
        go_wp2_with (at_builtin; refine wpl_app w2 rfl (.tmp 20) (.tmp 23) 62 rfl w.heap.size elStr u4 k _ rfl HO2.out [.string e.text] rfl rfl (by simp [Value.oneCell']) (by simp only [maxLen]; omega) (by omega) HB2.out.size ?_; intro g2 cap w3 hown3 hg3 hfr3; have HO3 := Lib.hid hown3; have HB3 := Lib.hid (Below.ofGrown HB2.out HO2.out hg3 (Nat.le_refl _) HB2.out.size); have z3 : w3.cell? ⟨wr.heap.size, 2, none⟩ = some (.string e.text) := (Blk.grown HK2.out hg3 (HK2.out.ne_own HO2.out (by decide))).cell rfl; clear hown3 hg3)
        go_roundw
        case rel => exact ⟨k + 1, y + (1 + (e.text.size : Int)), by omega, by go_num, rfl, HYN, hyb2.out, HAT, (by unfold Hid; rw [HTK.out, List.map_append, List.map_append]; exact HO3.out), HB3⟩
        case measure => simp [intOf]; omega
    · obtain rfl : k = l.length := by omega
      rw [List.take_of_length_le (Nat.le_refl _)] at HY HT HO
      have hy := HY.out
      by_cases hbig : 6001 < joinN l
      · have HF : Hid (joinOf l = (emp, 2)) := Lib.hid (by unfold joinOf; rw [if_pos HT.out, if_pos hbig])
        have hd : decide ((6001 : Int) < y) = true := decide_eq_true (by omega)
        clear hy hbig
        go_wp2
        go_ret2
        exact ⟨by rw [HF.out]; rfl, HB.out⟩
      · have HF : Hid (joinOf l = (joinB l, 0)) := Lib.hid (by unfold joinOf; rw [if_pos HT.out, if_neg hbig])
        have hd : decide ((6001 : Int) < y) = false := decide_eq_false (by omega)
        have HJ := Lib.hid (join_call l _ _ _ HO.out hl (by omega))
        clear hy hbig
        go_wp2_with fail
        refine HJ.out.mono ?_
        rintro e2 w2 ⟨rfl, hb2⟩
        have HB2 := Lib.hid (HB.out.tr hb2)
        clear hb2
        go_wp2
        go_ret2
        exact ⟨by rw [HF.out]; rfl, HB2.out⟩

end Go.Proofs.Ytegknpffiaeohaa
