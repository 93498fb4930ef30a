/- The program's one and Join compute what they should. Each lemma states its own conditions. -/
import Derived.Test.YtegknpffiaeohaaTokH
namespace Go.Proofs.Ytegknpffiaeohaa
open Go.RowKit

theorem isTok_no {kind : Int} {s : ByteArray} (h : ¬ ((scanOf s).2.2 = 0 ∧ ∃ t, (scanOf s).1 = [t] ∧ t.kind = kind ∧ t.text = s)) : isTok kind s = false := by
  cases hk : isTok kind s with
  | false => rfl
  | true => exact absurd ((one_iff kind s).1 hk) h

set_option maxRecDepth 20000 in
set_option maxHeartbeats 1000000 in
theorem one_any (kind : Int) (s : ByteArray) (w : World) (hm : s.size ≤ maxLen) :
    Calls Try.prog 26 #[.int .i64 kind, .string s] w fun r w' => r = .returned (.bool (isTok kind s)) ∧ Bel w w' := by
  have HSC := Lib.hid (fun W => scan_any s W hm)
  have HY := Lib.hid ((one_iff kind s).2)
  have HN := Lib.hid (isTok_no (kind := kind) (s := s))
  unfold ScanRes at HSC
  obtain ⟨L, a, e, hR⟩ : ∃ L a e, scanOf s = (L, a, e) := ⟨_, _, _, rfl⟩
  rw [hR] at HSC HY HN
  clear hR hm
  go_enter Try.func26, Try.ntmps26
  go_wp2_with fail
  refine (HSC.out _).mono ?_
  rintro e1 w1 ⟨v, rfl, hs1, hb1⟩
  have HB := Lib.hid hb1
  obtain ⟨A, c, rfl, hc, hm, hA⟩ := hs1
  have HA := Lib.hid hA
  clear hb1 hA HSC
  by_cases he : e = 0
  · have hde : (e == 0) = true := by simpa using he
    by_cases hl : L.length = 1
    · obtain ⟨t, rfl⟩ := List.length_eq_one_iff.1 hl
      obtain ⟨ab, ao, rfl, hA⟩ := HA.out (by simp)
      obtain ⟨x0, x1, x2⟩ := tokR.cells (k := 0) hA rfl
      rw [Nat.zero_mul, Nat.add_zero] at x0 x1 x2
      clear hA HA
      have hl1 : ((([t] : List Tok).length : Nat) : Int) = 1 := rfl
      by_cases hk : t.kind = kind
      · have hdk : (t.kind == kind) = true := by simpa using hk
        by_cases ht : t.text = s
        · have d1 := str_true ht
          have HT : Hid (isTok kind s = true) := Lib.hid (HY.out ⟨he, t, rfl, hk, ht⟩)
          clear he hk ht
          go_wp2
          go_ret
          exact ⟨ret_bool HT.out.symm, HB.out⟩
        · have d1 := str_false ht
          have HT : Hid (isTok kind s = false) := Lib.hid (HN.out (by rintro ⟨_, u, h1, _, h2⟩; cases h1; exact ht h2))
          clear he hk ht
          go_wp2
          go_ret
          exact ⟨ret_bool HT.out.symm, HB.out⟩
      · have hdk : (t.kind == kind) = false := by simpa using hk
        have HT : Hid (isTok kind s = false) := Lib.hid (HN.out (by rintro ⟨_, u, h1, h2, _⟩; cases h1; exact hk h2))
        clear he hk
        go_wp2
        go_ret
        exact ⟨ret_bool HT.out.symm, HB.out⟩
    · have hdl : ((L.length : Int) == 1) = false := by simp; omega
      have HT : Hid (isTok kind s = false) := Lib.hid (HN.out (by rintro ⟨_, u, h1, _⟩; rw [show L = [u] from h1] at hl; exact hl rfl))
      clear he hl HA
      go_wp2
      go_ret
      exact ⟨ret_bool HT.out.symm, HB.out⟩
  · have hde : (e == 0) = false := by simpa using he
    have HT : Hid (isTok kind s = false) := Lib.hid (HN.out (by rintro ⟨h, _⟩; exact he h))
    clear he HA
    go_wp2
    go_ret
    exact ⟨ret_bool HT.out.symm, HB.out⟩

theorem joinB_list : ∀ l : List Tok, (joinB l).data.toList = Lib.join ((l.map Tok.text).map (·.data.toList)) [32]
  | [] => rfl
  | [t] => by rw [joinB, List.map_cons, List.map_nil, List.map_cons, List.map_nil, Lib.join_one]
  | t :: u :: us => by
    have h := joinB_list (u :: us)
    rw [joinB, ByteArray.data_append, ByteArray.data_append, Array.toList_append, Array.toList_append, h]
    simp [Lib.join, List.intercalate, sp]
theorem joinB_eq (l : List Tok) : (⟨(Lib.join ((l.map Tok.text).map (·.data.toList)) [32]).toArray⟩ : ByteArray) = joinB l := by
  rw [← joinB_list]
theorem elStr : Elem Try.prog 62 9 1 16 := Elem.mk_ (z := .string emp) Try.underlying62 (by kernel_rfl) rfl (by decide)
theorem join_call (l : List Tok) (v : Value) (B : Nat) (w : World) (hv : w.ownsRow B 9 1 v l.length ((l.map Tok.text).map Value.string)) (hl : l.length ≤ 4398046511104) (hn : joinN l ≤ 6001) :
    Calls Try.prog 27 #[v, .string ⟨#[32]⟩] w fun r w' => r = .returned (.string (joinB l)) ∧ Bel w w' := by
  rcases hv.2 with ⟨rfl, h0⟩ | ⟨g, cap, cur, rfl, _, hg, hnc, hcm, hcs, ht⟩
  · obtain rfl : l = [] := List.eq_nil_of_length_eq_zero h0
    exact (Try.strings_Join_none none 0 ⟨#[32]⟩ w).mono fun r w' ⟨h1, h2⟩ => ⟨h1, by rw [h2]; exact Bel.rfl_ w⟩
  · have hz : ((l.map Tok.text).length : Nat) = l.length := List.length_map _
    rw [← hz]
    refine (Try.strings_Join g 0 cap (l.map Tok.text) ⟨#[32]⟩ w ?_ (Array.getElem?_eq_some_iff.1 hg).1 (by omega) (by omega) ?_).mono fun r w' ⟨h1, h2⟩ => ⟨?_, h2⟩
    · intro j x hx
      have hj : j < l.length := by rw [← hz]; exact (List.getElem?_eq_some_iff.1 hx).1
      rw [cell_of_row w g _ cur 9 (0, 0) hg, Nat.zero_add]
      have h1 : (cur.toList.take (l.length * 1))[j]? = ((l.map Tok.text).map Value.string)[j]? := by rw [ht]
      rw [List.getElem?_take, if_pos (by omega), List.getElem?_map, hx, Array.getElem?_toList] at h1
      exact h1
    · have h3 := joinB_size l
      have h4 := congrArg List.length (joinB_list l)
      have h5 : (joinB l).data.toList.length = (joinB l).size := rfl
      show (Lib.join ((l.map Tok.text).map (·.data.toList)) [32]).length ≤ _
      omega
    · rw [h1]
      show Ending.returned (.string ⟨(Lib.join ((l.map Tok.text).map (·.data.toList)) [32]).toArray⟩) = _
      rw [joinB_eq]

end Go.Proofs.Ytegknpffiaeohaa
