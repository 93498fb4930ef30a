/- The document's JoinOf computes what is joined. Each lemma states its own conditions. -/
import Derived.Test.YtegknpffiaeohaaTokC
namespace Go.Proofs.Ytegknpffiaeohaa
open Go.RowKit

/-- a callee that draws nothing, in a quiet region of a world that drew before -/
theorem quiet_add {P : Program} {f : FuncId} {args : Array Value} {w : World} {n m : Nat} {v : Value} (h : Calls P f args (w.drewN (n + m)) fun e w' => e = .returned v ∧ w' = w.drewN (n + m)) :
    Calls P f args (w.drewN (n + m)) fun e w'' => e = .returned v ∧ ∃ k, w'' = w.drewN (n + k) :=
  h.mono fun _ _ ⟨he, hm⟩ => ⟨he, m, hm⟩

set_option maxRecDepth 20000 in
set_option maxHeartbeats 1000000 in
theorem joinOf_ref (v : Value) (l : List Tok) (w : World) (h : Sl tokR w v l) (hl : l.length ≤ 4398046511104) (ht : ∀ t ∈ l, t.text.size ≤ maxLen) :
    Calls Try.prog 14 #[v] w fun r w' => r = .returned (.tuple #[.string (joinOf l).1, .int .i64 (joinOf l).2]) ∧ Bel w w' := by
  obtain ⟨A, c, rfl, hc, hm, hA⟩ := h
  have HA := Lib.hid hA; clear hA
  have HM := Lib.hid ht; clear ht
  go_enter Try.func14, Try.ntmps14
  go_wp2
  go_loopw [4, 5, 6] (fun b m i wr => ∃ (k : Nat) (x : ByteArray) (y : Int), k ≤ l.length ∧ i = .int .i64 k ∧ m = .int .i64 y ∧ Hid (y = (joinN (l.take k) : Int) - 1 ∧ joinN (l.take k) ≤ 6001 * k) ∧ (-1 ≤ y ∧ y ≤ 26392677113135104) ∧ b = .string x ∧ Hid (allTok (l.take k) = true) ∧ Hid (joinN (l.take k) ≤ 6001 → x = joinB (l.take k)) ∧ ∃ n, wr = w.drewN n) (fun _ _ i _ => l.length - (intOf i).toNat)
  case atStart => exact ⟨0, emp, -1, by omega, rfl, rfl, ⟨by simp [joinN], by simp [joinN]⟩, by omega, rfl, rfl, fun _ => rfl, 0, rfl⟩
  case round =>
    obtain ⟨k, x, y, hk, rfl, rfl, HY, hyb, rfl, HT, HX, n, rfl⟩ := hrel
    by_cases hlt : k < l.length
    · obtain ⟨e, he⟩ : ∃ e, l[k]? = some e := ⟨_, List.getElem?_eq_getElem hlt⟩
      obtain ⟨ab, ao, rfl, hA⟩ := HA.out (by omega)
      obtain ⟨x0, x1, x2⟩ := tokR.cells hA he
      have hts := HM.out e (List.mem_of_getElem? he)
      clear hA HA HM x1
      have HIT := Lib.hid (fun W => (isToken_ref e.kind e.text W hts).mono (R' := fun r w' => r = .returned (.bool (isTok e.kind e.text)) ∧ w' = W) fun _ _ h => ⟨h.1, h.2.symm⟩)
      have HE := Lib.hid he; clear he
      have HTK := Lib.hid (take_snoc HE.out)
      have hn : joinN (l.take (k + 1)) = joinN (l.take k) + (1 + e.text.size) := by rw [HTK.out, joinN_snoc]
      cases hti : isTok e.kind e.text with
      | false =>
        rw [hti] at HIT
        have HF : Hid (joinOf l = (emp, 1)) := Lib.hid (by unfold joinOf; rw [if_neg (by simp [allTok_take HE.out hti])])
        clear hti hts
        go_wp2
        go_quiet ((go_at_call 28; exact quiet_add (HIT.out _)))
        go_wp2
        go_ret2
        exact ⟨by rw [HF.out]; rfl, by repeat (first | exact Bel.rfl_ _ | apply Bel.drN | apply Bel.al | apply Bel.dr)⟩
      | true =>
        rw [hti] at HIT
        have h6 := (isTok_iff.1 hti).1
        have HYN : Hid (y + (1 + (e.text.size : Int)) = (joinN (l.take (k + 1)) : Int) - 1 ∧ joinN (l.take (k + 1)) ≤ 6001 * (k + 1)) := Lib.hid (by have := HY.out; omega)
        have hyb2 : Hid (-1 ≤ y + (1 + (e.text.size : Int)) ∧ y + (1 + (e.text.size : Int)) ≤ 26392677113135104) := Lib.hid (by have := HYN.out; omega)
        have hyo := HYN.out
        have HAT : Hid (allTok (l.take (k + 1)) = true) := Lib.hid (by rw [HTK.out, allTok_snoc, HT.out, hti]; rfl)
        clear hti hts
        by_cases hbig : 6001 < joinN (l.take (k + 1))
        · have HB : Hid (joinN (l.take (k + 1)) ≤ 6001 → x = joinB (l.take (k + 1))) := Lib.hid (fun h => by omega)
          clear HX
          have db : decide (y + (1 + (e.text.size : Int)) ≤ 6000) = false := decide_eq_false (by omega)
          clear hyo hn hbig
          go_wp2
          go_quiet ((go_at_call 28; exact quiet_add (HIT.out _)))
          go_wp2
          go_roundw
          case rel => exact ⟨k + 1, x, y + (1 + (e.text.size : Int)), by omega, by go_num, rfl, HYN, hyb2.out, rfl, HAT, HB, _, rfl⟩
          case measure => simp [intOf]; omega
        · have db : decide (y + (1 + (e.text.size : Int)) ≤ 6000) = true := decide_eq_true (by omega)
          have hx := HX.out (by omega)
          rcases Nat.eq_zero_or_pos k with hk0 | hk0
          · have HB : Hid (joinN (l.take (k + 1)) ≤ 6001 → x ++ e.text = joinB (l.take (k + 1))) := Lib.hid (fun _ => by rw [hx, HTK.out, hk0]; exact emp_app _)
            have hxs : x.size ≤ 6000 := by rw [hx, hk0]; exact Nat.zero_le _
            have hd0 : decide (0 < k) = false := by rw [hk0]; rfl
            have HK0 := Lib.hid hk0
            clear HX hx hyo hn hbig hk0
            go_wp2
            go_quiet ((go_at_call 28; exact quiet_add (HIT.out _)))
            go_wp2
            go_roundw
            case rel => exact ⟨k + 1, x ++ e.text, y + (1 + (e.text.size : Int)), by omega, by go_num, rfl, HYN, hyb2.out, rfl, HAT, HB, _, rfl⟩
            case measure => simp [intOf]; omega
          · have HB : Hid (joinN (l.take (k + 1)) ≤ 6001 → (x ++ sp) ++ e.text = joinB (l.take (k + 1))) := Lib.hid (fun _ => by
              rw [hx, HTK.out, joinB_snoc _ _ (by intro h; have := congrArg List.length h; rw [List.length_take] at this; simp only [List.length_nil] at this; omega), ByteArray.append_assoc])
            have hxs : x.size ≤ 6000 := by have := joinB_size (l.take k); rw [← hx] at this; omega
            have hd0 : decide (0 < k) = true := decide_eq_true hk0
            have HK0 := Lib.hid hk0
            clear HX hx hyo hn hbig hk0
            have hsp : (⟨#[32]⟩ : ByteArray) = sp := rfl
            have hz1 : sp.size = 1 := rfl
            have hz2 : (x ++ sp).size = x.size + 1 := by rw [ByteArray.size_append]; rfl
            go_wp2
            go_quiet ((go_at_call 28; exact quiet_add (HIT.out _)))
            go_wp2
            go_roundw
            case rel => exact ⟨k + 1, (x ++ sp) ++ e.text, y + (1 + (e.text.size : Int)), by omega, by go_num, rfl, HYN, hyb2.out, rfl, HAT, HB, _, rfl⟩
            case measure => simp [intOf]; omega
    · obtain rfl : k = l.length := by omega
      rw [List.take_of_length_le (Nat.le_refl _)] at HY HT HX
      have hy := HY.out
      by_cases hbig : 6001 < joinN l
      · have HF : Hid (joinOf l = (emp, 2)) := Lib.hid (by unfold joinOf; rw [if_pos HT.out, if_pos hbig])
        go_wp2
        go_ret2
        exact ⟨by rw [HF.out]; rfl, by repeat (first | exact Bel.rfl_ _ | apply Bel.drN | apply Bel.al | apply Bel.dr)⟩
      · have HF : Hid (joinOf l = (x, 0)) := Lib.hid (by unfold joinOf; rw [if_pos HT.out, if_neg hbig, HX.out (by omega)])
        go_wp2
        go_ret2
        exact ⟨by rw [HF.out]; rfl, by repeat (first | exact Bel.rfl_ _ | apply Bel.drN | apply Bel.al | apply Bel.dr)⟩

end Go.Proofs.Ytegknpffiaeohaa
