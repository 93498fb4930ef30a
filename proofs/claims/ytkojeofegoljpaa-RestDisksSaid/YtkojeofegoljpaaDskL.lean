/- New disks, sectors: walked. Each lemma states its own conditions. -/
import Derived.Test.YtkojeofegoljpaaDskK
import Derived.Laws.BytesArg
import Derived.Laws.Concat
namespace Go.Proofs.Ytkojeofegoljpaa
open Go.RowKit

theorem elU8 : Elem Try.prog 74 5 1 1 := Elem.mk_ (z := .int .u8 0) Try.underlying74 (by kernel_rfl) rfl (by omega)
theorem str_app (xs ys : List Int) : strOfNums xs ++ strOfNums ys = strOfNums (xs ++ ys) := by
  unfold strOfNums
  rw [ByteArray.mk_append_mk, List.map_append]
theorem str_nil : (⟨#[]⟩ : ByteArray) = strOfNums [] := rfl
theorem conv1 (w : World) (x : Int) : (convert 74 9 (.slice (some ⟨w.heap.size, 0, none⟩) 1 1)).run Try.prog (w.alloc (.cells #[.int .u8 x] 5)) = .ok (.string (strOfNums [x])) (w.alloc (.cells #[.int .u8 x] 5)) := by
  refine run_convert_bytes_arg (P := Try.prog) _ 74 5 Try.underlying74 Try.underlying5 _ 0 1 1 [x] rfl ?_ _ Try.underlying9
  intro i hi
  obtain rfl : i = 0 := by omega
  rw [cell_of_row _ w.heap.size 0 #[.int .u8 x] 5 (0, 0) (heap_alloc_new w _)]
  rfl
theorem conv_own {w : World} {base : Nat} {v : Value} {xs : List Int} (h : w.ownsRow base 5 1 v xs.length (xs.map (Value.int .u8))) :
    (convert 74 9 v).run Try.prog w = .ok (.string (strOfNums xs)) w := by
  rcases h.2 with ⟨rfl, h0⟩ | ⟨g, cap, cur, rfl, _, hg, hnc, hcm, hcs, ht⟩
  · obtain rfl : xs = [] := List.eq_nil_of_length_eq_zero h0
    exact run_convert_bytes_nil (P := Try.prog) w 74 5 Try.underlying74 Try.underlying5 0 0 _ Try.underlying9
  · refine run_convert_bytes_arg (P := Try.prog) w 74 5 Try.underlying74 Try.underlying5 g 0 _ cap xs rfl ?_ _ Try.underlying9
    intro i hi
    rw [cell_of_row w g _ cur 5 (0, 0) hg, Nat.zero_add]
    have h1 : (cur.toList.take (xs.length * 1))[i]? = (xs.map (Value.int .u8))[i]? := by rw [ht]
    rw [List.getElem?_take, if_pos (by omega), List.getElem?_map, List.getElem?_eq_getElem hi, Array.getElem?_toList] at h1
    rw [h1, List.getD_eq_getElem?_getD, List.getElem?_eq_getElem hi]
    rfl
def rep (k : Nat) (x : Int) : List Int := List.replicate k x
theorem rep_snoc (k : Nat) (x : Int) : rep k x ++ [x] = rep (k + 1) x := by unfold rep; rw [List.replicate_succ']
theorem rep_length (k : Nat) (x : Int) : (rep k x).length = k := by unfold rep; simp
/-- a sector of one byte over and over -/
def sec (x : Int) : ByteArray := strOfNums (rep 32 x)
theorem sec_size (x : Int) : (sec x).size = 32 := by rw [sec, strOfNums_size, rep_length]
theorem blank_any (w : World) : Calls Try.prog 37 #[] w fun r w' => r = .returned (.string (sec 0)) ∧ Bel w w' := by
  have HR := Lib.hid (fun W => Try.strings_Repeat ⟨#[0]⟩ 32 W (by decide) (by decide))
  rw [show (⟨(Lib.repeatL (⟨#[0]⟩ : ByteArray).data.toList 32).toArray⟩ : ByteArray) = sec 0 from by decide] at HR
  generalize sec 0 = S at *
  go_enter Try.func37, Try.ntmps37
  go_wp2_with fail
  refine (HR.out _).mono ?_
  rintro r w' ⟨rfl, hb⟩
  go_wp2
  go_ret
  exact ⟨rfl, hb⟩

set_option maxRecDepth 20000 in
theorem sector_any (w : World) : Calls Try.prog 44 #[.int .u8 7] w fun r w' => r = .returned (.string (sec 7)) ∧ Bel w w' := by
  have hS : Hid (sec 7 = strOfNums (rep 32 7)) := Lib.hid rfl
  generalize sec 7 = S at *
  go_enter Try.func44, Try.ntmps44
  go_wp2
  go_loopw [3, 4] (fun v i wr => ∃ (k : Nat), i = .int .i64 k ∧ k ≤ 32 ∧ Hid (wr.ownsRow w.heap.size 5 1 v k ((rep k 7).map (Value.int .u8))) ∧ Hid (Bel w wr)) (fun _ i _ => 32 - (intOf i).toNat)
  case atStart => exact ⟨0, rfl, by omega, World.ownsRow_nil _ _ _ _, Bel.rfl_ w⟩
  case round =>
    obtain ⟨k, rfl, hk, HO, HB⟩ := hrel
    by_cases hlt : k < 32
    · have HSZ := Lib.hid HB.out.size
      go_wp2_with (at_builtin; refine wpl_app wr rfl (.tmp 9) (.tmp 11) 74 rfl w.heap.size elU8 u3 k _ rfl HO.out [.int .u8 7] rfl rfl (by simp [Value.oneCell']) (by simp only [maxLen]; omega) (by omega) HSZ.out ?_; intro g cap w4 hown hg _; have HO4 := Lib.hid hown; have HB4 := Lib.hid (Below.ofGrown HB.out HO.out hg (Nat.le_refl _) HSZ.out); clear hown hg)
      go_roundw
      case rel => exact ⟨k + 1, by go_num, by omega, (by unfold Hid; rw [← rep_snoc, List.map_append]; exact HO4.out), HB4⟩
      case measure => simp [intOf]; omega
    · obtain rfl : k = 32 := by omega
      have hcv := conv_own (xs := rep 32 7) HO.out
      clear HO
      go_wp2
      go_ret
      exact ⟨by rw [hS.out]; rfl, HB.out⟩

def newErr (n : Int) : Int := if 1 ≤ n ∧ n ≤ 600 then 0 else 3
def newDk (n : Int) : Dk := if 1 ≤ n ∧ n ≤ 600 then ⟨List.replicate n.toNat (sec 0), []⟩ else noDk
theorem Sl.blk {w : World} {g n : Nat} {u : ByteArray} (hn : n ≤ 600) (h : Blk w g 9 (List.replicate n (Value.string u)).toArray) : Sl strR w (.slice (some ⟨g, 0, none⟩) n n) (List.replicate n u) := by
  refine ⟨some ⟨g, 0, none⟩, n, by rw [List.length_replicate], by rw [List.length_replicate]; exact Nat.le_refl _, ⟨by simp only [maxLen]; omega, fun h => by cases h⟩, fun _ => ⟨g, 0, rfl, fun k x hk => ⟨[.string x], rfl, fun j v hj => ?_⟩⟩⟩
  have hj0 : j = 0 := by
    cases j with
    | zero => rfl
    | succ j => simp at hj
  subst hj0
  have hv : v = .string x := by simpa using hj.symm
  subst hv
  refine h.cell ?_
  rw [List.getElem?_replicate] at hk
  split at hk
  · rename_i hkn
    cases hk
    simp only [strR, Nat.mul_one, Nat.zero_add, Nat.add_zero]
    rw [List.getElem?_toArray, List.getElem?_replicate, if_pos hkn]
  · cases hk

set_option maxRecDepth 20000 in
set_option maxHeartbeats 1000000 in
theorem new_any (n : Int) (w : World) : Calls Try.prog 8 #[.int .i64 n] w fun r w' => ∃ val', r = .returned (.tuple #[val', .int .i64 (newErr n)]) ∧ DkV w' (newDk n) val' ∧ Bel w w' := by
  have HE : Hid ((if 1 ≤ n ∧ n ≤ 600 then (0 : Int) else 3) = newErr n) := Lib.hid rfl
  have HU : Hid ((if 1 ≤ n ∧ n ≤ 600 then ⟨List.replicate n.toNat (sec 0), []⟩ else noDk) = newDk n) := Lib.hid rfl
  generalize newErr n = E at *
  generalize newDk n = U at *
  have hr : Try.f8.results = #[.cell 2 25, .tmp 3] := rfl
  have HRR := Lib.hid (Blk.new w 25 #[.slice none 0 0, .slice none 0 0])
  by_cases hn : 1 ≤ n ∧ n ≤ 600
  · rw [if_pos hn] at HE HU
    obtain ⟨hn1, hn2⟩ := hn
    obtain ⟨m, rfl⟩ : ∃ m : Nat, n = m := ⟨n.toNat, by omega⟩
    rw [Int.toNat_natCast] at HU
    have hm1 : 1 ≤ m := by omega
    have hm2 : m ≤ 600 := by omega
    have HB := Lib.hid blank_any
    have HRP := Lib.hid (fun b o W hc => repeatS_any (sec 0) m b o W hc hm1 hm2)
    generalize sec 0 = S at *
    go_enter Try.func8, Try.ntmps8
    go_wp2_with fail
    refine (HB.out _).mono ?_
    rintro r w1 ⟨rfl, hb1⟩
    have HB1 := Lib.hid hb1
    have hc1 := (Blk.new w1 9 #[.string S]).cell (i := 0) (v := .string S) rfl
    clear hb1
    go_wp2_with fail
    refine (HRP.out _ _ _ hc1).mono ?_
    rintro r w2 ⟨rfl, hg2, hb2⟩
    have hb02 := (Bel.tr HB1.out ((Bel.rfl_ w1).al (.cells #[.string S] 9))).tr hb2
    have HR2 := Lib.hid (HRR.out.keep hb02)
    have HG2 := Lib.hid hg2
    have HB2 := Lib.hid (((Bel.rfl_ w).al (.cells #[.slice none 0 0, .slice none 0 0] 25)).tr hb02)
    have d0 := HR2.out.cell (i := 0) rfl
    have d1 := HR2.out.cell (i := 1) rfl
    have e0 := HR2.out.frozen 0
    have e1 := HR2.out.frozen 1
    rw [World.size_alloc] at HG2
    clear hb02 hg2 hb2 hc1
    go_wp2
    have hs := Sl.blk hm2 HG2.out
    have z0 := (two_set (a := .slice (some ⟨w1.heap.size + 1, 0, none⟩) m m) (b := .slice none 0 0) HR2.out).cell (i := 0) rfl
    have z1 := (two_set (a := .slice (some ⟨w1.heap.size + 1, 0, none⟩) m m) (b := .slice none 0 0) HR2.out).cell (i := 1) rfl
    have hbl := (HB2.out.setCell (p := ⟨w.heap.size, 0, none⟩) (by dsimp only; omega) (.slice (some ⟨w1.heap.size + 1, 0, none⟩) m m)).setCell (p := ⟨w.heap.size, 1, none⟩) (by dsimp only; omega) (.slice none 0 0)
    refine bodyPost_ret (v := .tuple #[.agg #[.slice (some ⟨w1.heap.size + 1, 0, none⟩) m m, .slice none 0 0], .int .i64 0]) (by simp [results, z0, z1, go_sem]) rfl ⟨_, by rw [← HE.out], ?_, hbl⟩
    rw [← HU.out]
    exact DkV.aside ⟨some ⟨w1.heap.size + 1, 0, none⟩, m, none, 0, by simp, by simpa using hs, Sl.nil_ _ _⟩ HR2.out _ _ _ _ _ _
  · rw [if_neg hn] at HE HU
    have d0 := HRR.out.cell (i := 0) rfl
    have d1 := HRR.out.cell (i := 1) rfl
    have e0 := HRR.out.frozen 0
    have e1 := HRR.out.frozen 1
    have z0 := HRR.out.cell (i := 0) rfl
    have z1 := HRR.out.cell (i := 1) rfl
    have hbl := (Bel.rfl_ w).al (.cells #[.slice none 0 0, .slice none 0 0] 25)
    have HBL := Lib.hid hbl
    have HZ0 := Lib.hid z0
    have HZ1 := Lib.hid z1
    clear hbl z0 z1
    by_cases h1 : n < 1
    · go_enter Try.func8, Try.ntmps8
      go_wp2
      have z0 := HZ0.out
      have z1 := HZ1.out
      exact bodyPost_ret (v := .tuple #[.agg #[.slice none 0 0, .slice none 0 0], .int .i64 3]) (by simp [results, z0, z1, go_sem]) rfl ⟨_, by rw [← HE.out], by rw [← HU.out]; exact DkV.empty _, HBL.out⟩
    · have h2 : 600 < n := by omega
      go_enter Try.func8, Try.ntmps8
      go_wp2
      have z0 := HZ0.out
      have z1 := HZ1.out
      exact bodyPost_ret (v := .tuple #[.agg #[.slice none 0 0, .slice none 0 0], .int .i64 3]) (by simp [results, z0, z1, go_sem]) rfl ⟨_, by rw [← HE.out], by rw [← HU.out]; exact DkV.empty _, HBL.out⟩

end Go.Proofs.Ytkojeofegoljpaa
