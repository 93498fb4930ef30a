/- What held since, what held once, and what looks back at a beginning of a list: plain words. Each lemma states its own conditions. -/
import Derived.Test.YtegknpffiaeohaaDoorQryL
import Derived.Test.YtegknpffiaeohaaDoorShoP
namespace Go.Proofs.YtegknpffiaeohaaDoor
open Go.RowKit

theorem bg_holds (k n : Int) (l : List Ev) (args : List Ask) {t : Nat} (hk : k ≠ 14) (ht : t < l.length) :
    bg ((Ask.mk k n args).holds l) t = fw (stepK k n l ((subsOf l args)[0]?.getD []) ((subsOf l args)[1]?.getD [])) (decide (k = 12)) (t + 1) := by
  rw [Ask.holds, holdsS, if_neg hk, bg_fwd ht]
theorem or_same (q : Ask) {l : List Ev} {t : Nat} (ht : t < l.length) : bg ((Ask.mk 9 0 [q, q]).holds l) t = bg (q.holds l) t := by
  rw [bg_holds _ _ _ _ (by decide) ht, fw]
  simp [stepK, subsOf]
/-- at this event, or it held before and holds on -/
theorem since_zero (q r : Ask) {l : List Ev} (ht : 0 < l.length) : bg ((Ask.mk 13 0 [q, r]).holds l) 0 = bg (r.holds l) 0 := by
  rw [bg_holds _ _ _ _ (by decide) ht, fw, fw]
  simp [stepK, subsOf]
theorem since_succ (q r : Ask) {l : List Ev} {t : Nat} (ht : t + 1 < l.length) : bg ((Ask.mk 13 0 [q, r]).holds l) (t + 1) = (bg (r.holds l) (t + 1) || (bg ((Ask.mk 13 0 [q, r]).holds l) t && bg (q.holds l) (t + 1))) := by
  rw [bg_holds _ _ _ _ (by decide) ht, bg_holds _ _ _ _ (by decide) (by omega : t < l.length)]
  generalize hF : fw _ _ (t + 1) = F
  rw [fw, hF]
  simp [stepK, subsOf]

theorem bg_not (q : Ask) {l : List Ev} {t : Nat} (ht : t < l.length) : bg ((Ask.mk 7 0 [q]).holds l) t = !bg (q.holds l) t := by
  rw [bg_holds _ _ _ _ (by decide) ht, fw]
  simp [stepK, subsOf]
theorem once_fw (q : Ask) (l : List Ev) : ∀ t, t ≤ l.length → fw (stepK 11 0 l ((subsOf l [q])[0]?.getD []) ((subsOf l [q])[1]?.getD [])) (decide ((11 : Int) = 12)) t = !fw (stepK 12 0 l ((subsOf l [.mk 7 0 [q]])[0]?.getD []) ((subsOf l [.mk 7 0 [q]])[1]?.getD [])) (decide ((12 : Int) = 12)) t
  | 0, _ => rfl
  | t + 1, h => by
    have ih := once_fw q l t (by omega)
    have hn := bg_not q (l := l) (t := t) (by omega)
    rw [fw, fw, ih]
    generalize fw _ _ t = F
    simp only [stepK, subsOf]
    simp [hn]
theorem bg_ext {a b : List Bool} (h : a.length = b.length) (hx : ∀ t, t < a.length → bg a t = bg b t) : a = b := by
  refine List.ext_getElem h fun i h1 h2 => ?_
  have := hx i h1
  simpa [bg, List.getElem?_eq_getElem h1, List.getElem?_eq_getElem h2] using this
theorem holds_len {k n : Int} {args : List Ask} {l : List Ev} (hk : k ≠ 14) : ((Ask.mk k n args).holds l).length = l.length := by
  rw [Ask.holds, holdsS, if_neg hk, fwd_length]
/-- all is not once not -/
theorem once_all (q : Ask) (l : List Ev) : (Ask.mk 11 0 [q]).holds l = (Ask.mk 7 0 [.mk 12 0 [.mk 7 0 [q]]]).holds l := by
  refine bg_ext (by rw [holds_len (by decide), holds_len (by decide)]) fun t ht => ?_
  rw [holds_len (by decide)] at ht
  rw [bg_not _ ht, bg_holds _ _ _ _ (by decide) ht, bg_holds _ _ _ _ (by decide) ht, once_fw q l (t + 1) ht]

theorem cnt_pos (q : Ask) : 1 ≤ q.cnt := by
  obtain ⟨k, n, args⟩ := q
  rw [Ask.cnt]; omega
theorem sizeL_of_cnt {xs : List Ask} (h : ∀ x ∈ xs, ∀ m : Int, (x.cnt : Int) ≤ m → x.size m = x.cnt) : ∀ (a m : Int), a + Ask.cnt.cntL xs ≤ m → sizeL xs a m = a + Ask.cnt.cntL xs := by
  induction xs with
  | nil => intro a m _; rw [sizeL, Ask.cnt.cntL]; omega
  | cons x xs ih =>
    intro a m hm
    rw [Ask.cnt.cntL] at hm ⊢
    rw [sizeL, if_neg (by omega), h x (by simp) _ (by omega), ih (fun y hy => h y (by simp [hy])) _ _ (by omega)]
    omega
theorem size_of_cnt : ∀ (q : Ask) (m : Int), (q.cnt : Int) ≤ m → q.size m = q.cnt :=
  Ask.ind fun k n args ih m hm => by
    rw [Ask.cnt] at hm ⊢
    rw [Ask.size, sizeL_of_cnt ih 1 m (by omega)]
    omega
theorem err_of {q : Ask} (h : q.cnt ≤ 15) (hc : q.chk = 0) : q.err = 0 := by
  unfold Ask.err
  rw [if_neg (by rw [size_of_cnt q 15 (by omega)]; omega)]
  exact hc
/-- what is right with 'not all not' is right with 'once' -/
theorem once_err {q : Ask} {m : Nat} (h : holdErr (.mk 7 0 [.mk 12 0 [.mk 7 0 [q]]]) m = 0) : holdErr (.mk 11 0 [q]) m = 0 := by
  obtain ⟨h1, h2⟩ := holdErr_zero h
  have he : (Ask.mk 7 0 [.mk 12 0 [.mk 7 0 [q]]]).err = 0 := by
    unfold holdErr at h
    split at h
    · assumption
    · exact absurd h ‹_›
  have hc := err_cnt he
  simp only [Ask.cnt, Ask.cnt.cntL] at hc
  have c1 := (Ask.chk_zero h1).2.2.2 _ (List.mem_singleton.2 rfl)
  have c2 := (Ask.chk_zero c1).2.2.2 _ (List.mem_singleton.2 rfl)
  have c3 := (Ask.chk_zero c2).2.2.2 _ (List.mem_singleton.2 rfl)
  have hq : (Ask.mk 11 0 [q]).chk = 0 := by
    rw [Ask.chk, if_pos (by decide), if_pos (by simp [arity]), if_pos (by decide), chkL, if_pos c3, chkL]
  have hk : (Ask.mk 11 0 [q]).cnt ≤ 15 := by
    simp only [Ask.cnt, Ask.cnt.cntL]
    omega
  unfold holdErr
  rw [if_pos (err_of hk hq), if_neg (by omega)]

mutual
/-- does a query look at what comes? -/
def Ask.looks : Ask → Bool
  | .mk k _ args => k == 14 || looksL args
def looksL : List Ask → Bool
  | [] => false
  | x :: xs => x.looks || looksL xs
end
theorem looksL_mem {x : Ask} : ∀ {xs : List Ask}, looksL xs = false → x ∈ xs → x.looks = false
  | [], _, h => by simp at h
  | y :: ys, h0, h => by
    rw [looksL, Bool.or_eq_false_iff] at h0
    rcases List.mem_cons.1 h with rfl | h
    · exact h0.1
    · exact looksL_mem h0.2 h
theorem bg_take {l : List Bool} {c i : Nat} (h : i < c) : bg (l.take c) i = bg l i := by
  unfold bg
  rw [List.getElem?_take_of_lt h]
theorem fwd_take {g h : Nat → Bool → Bool} {st : Bool} {c n : Nat} (hc : c ≤ n) (he : ∀ i, i < c → ∀ b, h i b = g i b) : fwd h st c = (fwd g st n).take c := by
  rw [fwd_congr he]
  unfold fwd
  rw [← List.map_take, List.take_range, Nat.min_eq_left hc]
/-- what looks back at a beginning of a list looks back at the list -/
theorem holds_take {l : List Ev} {c : Nat} (hc : c ≤ l.length) : ∀ q : Ask, q.looks = false → q.holds (l.take c) = (q.holds l).take c :=
  Ask.ind fun k n args ih h => by
    rw [Ask.looks, Bool.or_eq_false_iff] at h
    obtain ⟨h1, h2⟩ := h
    have hk : k ≠ 14 := by simpa using h1
    have hs : ∀ j : Nat, (subsOf (l.take c) args)[j]?.getD [] = ((subsOf l args)[j]?.getD []).take c := fun j => by
      rw [subsOf_map, subsOf_map, List.getElem?_map, List.getElem?_map]
      cases hx : args[j]? with
      | none => simp
      | some x =>
        have hm := List.mem_of_getElem? hx
        simpa using ih x hm (looksL_mem h2 hm)
    rw [Ask.holds, Ask.holds, holdsS, holdsS, if_neg hk, if_neg hk, hs 0, hs 1, List.length_take, Nat.min_eq_left hc]
    refine fwd_take hc fun i hi b => ?_
    have e1 : ∀ (a : List Bool), bg (a.take c) i = bg a i := fun a => bg_take hi
    have e2 : ∀ (a : List Bool), bg (a.take c) (i - 1) = bg a (i - 1) := fun a => bg_take (by omega)
    have e3 : (l.take c)[i]? = l[i]? := List.getElem?_take_of_lt hi
    simp only [stepK, e1, e2, e3]
theorem err_two {k : Int} {q r : Ask} {m m' : Nat} (h : holdErr (.mk k 0 [q, r]) m = 0) (hm : m' ≤ m) : holdErr (.mk k 0 [q, r]) m' = 0 := by
  have h2 := (holdErr_zero h).2
  unfold holdErr at h ⊢
  split at h
  · rename_i he
    rw [if_pos he, if_neg (by omega)]
  · exact absurd h ‹_›
end Go.Proofs.YtegknpffiaeohaaDoor
