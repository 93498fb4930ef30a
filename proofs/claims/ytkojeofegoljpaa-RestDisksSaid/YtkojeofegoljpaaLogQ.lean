/- What must be of the log in any case: plain law. Each lemma states its own conditions. -/
import Derived.Test.YtkojeofegoljpaaLogL
import Derived.Test.YtkojeofegoljpaaLogM
import Derived.Test.YtkojeofegoljpaaLogH
namespace Go.Proofs.Ytkojeofegoljpaa
open Go.RowKit

theorem wrap32_id {n : Int} (h : -2147483648 ≤ n ∧ n ≤ 2147483647) : wrap32 n = n := by unfold wrap32; omega
theorem evSmall_in {e : Ev} (h : evSmall e = true) : (wrap32 e.kind = e.kind ∧ wrap32 e.frame = e.frame ∧ wrap32 e.at_ = e.at_) ∧ wrap32 e.var = e.var ∧ wrap32 e.index = e.index ∧ wrap32 e.value = e.value := by
  unfold evSmall at h
  simp only [Bool.and_eq_true, isN_iff] at h
  obtain ⟨⟨⟨⟨⟨h0, h1⟩, h2⟩, h3⟩, h4⟩, h5⟩ := h
  exact ⟨⟨wrap32_id h0, wrap32_id h1, wrap32_id h2⟩, wrap32_id h3, wrap32_id h4, wrap32_id h5⟩
theorem evS_evSec {e : Ev} (h : evSmall e = true) : evS (evSec e) = e := by
  obtain ⟨⟨h0, h1, h2⟩, h3, h4, h5⟩ := evSmall_in h
  unfold evS evSec
  rw [secS_num (i := 1) (x := e.kind) rfl, secS_num (i := 2) (x := e.frame) rfl, secS_num (i := 3) (x := e.at_) rfl, secS_num (i := 4) (x := e.var) rfl, secS_num (i := 5) (x := e.index) rfl, secS_num (i := 6) (x := e.value) rfl, h0, h1, h2, h3, h4, h5]
theorem evOf_evSec {e : Ev} (h : evSmall e = true) : evOf (evSec e) = some e := by
  rw [evOf, if_pos (show isSec (evSec e) 1003 from secS_isSec (by simp) (wrap32_id (by omega))), evS_evSec h]
theorem evsOf_evW {kept : List ByteArray} : ∀ (l : List Ev) (a : Nat), (∀ (k : Nat) e, l[k]? = some e → kept[a + k]? = some (evSec e)) → l.all evSmall = true → evsOf kept a l.length = some l
  | [], _, _, _ => rfl
  | e :: l, a, h, hs => by
    rw [List.all_cons, Bool.and_eq_true] at hs
    have h0 := h 0 e rfl
    rw [Nat.add_zero] at h0
    rw [List.length_cons, evsOf, evAt, h0, Option.bind_some, evOf_evSec hs.1, Option.bind_some, evsOf_evW l (a + 1) (fun k x hx => by
      have := h (k + 1) x (by simpa using hx)
      rwa [show a + (k + 1) = a + 1 + k by omega] at this) hs.2]
    rfl
/-- a batch that was written is read -/
theorem batchOf_new {kept : List ByteArray} {a used : Nat} {l : List Ev} (h0 : kept[a]? = some (secS 1002 [l.length])) (h : ∀ (k : Nat) e, l[k]? = some e → kept[a + 1 + k]? = some (evSec e)) (hs : l.all evSmall = true) (hl : l.length ≤ 60) (hu : a + 1 + l.length ≤ used) :
    batchOf kept a used = some (l, a + 1 + l.length) := by
  have hn : numAt (secS 1002 [(l.length : Int)]) 1 = l.length := by
    rw [secS_num (i := 1) (x := (l.length : Int)) rfl]
    exact wrap32_id (by omega)
  rw [batchOf, h0, Option.bind_some, hn, if_pos ⟨secS_isSec (by simp) (wrap32_id (by omega)), by omega, by omega, by omega⟩, Int.toNat_natCast, evsOf_evW l (a + 1) h hs]
  rfl
theorem blank_no : ¬ isSec (sec 0) 1001 := fun h => absurd h.1 (by decide +kernel)
theorem head0 : isSec (secS 1001 [0, 2]) 1001 ∧ numAt (secS 1001 [0, 2]) 1 = 0 ∧ numAt (secS 1001 [0, 2]) 2 = 2 :=
  ⟨secS_isSec (by simp) (wrap32_id (by omega)), by rw [secS_num (i := 1) (x := 0) rfl]; exact wrap32_id (by omega), by rw [secS_num (i := 2) (x := 2) rfl]; exact wrap32_id (by omega)⟩
theorem hd_zero {kept : List ByteArray} (h0 : kept[0]? = some (secS 1001 [0, 2])) (hl : 2 ≤ kept.length) : hd kept 0 (-1, 0) = (0, 2) := by
  obtain ⟨h1, h2, h3⟩ := head0
  rw [hd, h0]
  simp only []
  rw [if_pos ⟨h1, by rw [h2]; decide, by rw [h2]; decide, by rw [h3]; decide, by rw [h3]; omega⟩, h2, h3]
theorem bats_end (kept : List ByteArray) (u f : Nat) : bats kept u (f + 1) u = some [] := by rw [bats, if_neg (by omega)]
theorem load_fmt (m : Nat) (h : 4 ≤ m) : loadOf (secS 1001 [0, 2] :: List.replicate (m - 1) (sec 0)) = some (0, 2, []) := by
  have hh : heads (secS 1001 [0, 2] :: List.replicate (m - 1) (sec 0)) 2 = (0, 2) := by
    rw [heads, heads, heads, hd_zero rfl (by simp; omega), hd]
    have : (secS 1001 [0, 2] :: List.replicate (m - 1) (sec 0))[1]? = some (sec 0) := by
      rw [List.getElem?_cons_succ, List.getElem?_replicate, if_pos (by omega)]
    rw [this]
    simp only []
    rw [if_neg (fun h => blank_no h.1)]
  unfold loadOf
  rw [hh]
  simp only []
  rw [if_neg (by decide), show (2 : Int).toNat = 2 from rfl, bats_end _ 2 600]
  rfl
/-- the disk that is formatted with twenty sectors -/
def K0 : List ByteArray := secS 1001 [0, 2] :: List.replicate 19 (sec 0)
theorem K0_dk : fmtDk 20 = ⟨K0, []⟩ := rfl
theorem secZ_size : (sec 0).size = 32 := by decide +kernel
theorem K0_err : (Dk.mk K0 []).err = 0 := Dk.err_of ⟨by decide, by decide⟩ (fun s hs => by
  rcases List.mem_cons.1 hs with rfl | hs
  · exact secS_size (by simp)
  · rw [(List.mem_replicate.1 hs).2]; exact secZ_size) (by simp) (by simp)
theorem K0_load : loadOf K0 = some (0, 2, []) := load_fmt 20 (by omega)
theorem smallT_small : smallT.all evSmall = true := by decide
theorem app0 : appErr ⟨K0, []⟩ smallT = 0 := by
  unfold appErr
  rw [if_pos K0_err, if_neg (by decide), smallT_small, if_pos rfl]
  show (match loadOf K0 with | none => (4 : Int) | some p => if K0.length < p.2.1 + 1 + smallT.length then 8 else 0) = 0
  rw [K0_load]
  decide
theorem K1_kept : (appF K0 0 2 smallT).kept = [secS 1001 [0, 2], headS 0 2 smallT, secS 1002 [6], evSec ⟨1, 0, 0, 0, 0, 0⟩, evSec ⟨3, 0, 0, 0, 0, 7⟩, evSec ⟨2, 0, 0, 0, 0, 7⟩, evSec ⟨1, 0, 1, 0, 0, 0⟩, evSec ⟨4, 0, 1, 0, 0, 7⟩, evSec ⟨7, 0, -1, 0, 0, 0⟩] ++ List.replicate 11 (sec 0) := by
  have h1 := bodyD_err (d := ⟨K0, []⟩) (u := 2) (l := smallT) K0_err (by decide) (by decide)
  have h2 := appH_err (d := ⟨K0, []⟩) (t := 0) (u := 2) (l := smallT) K0_err (by decide) (by decide) (by decide)
  rw [appF, Dk.flushed, if_pos h2]
  unfold appH
  rw [Dk.flushed, if_pos h1]
  generalize headS 0 2 smallT = hS
  unfold bodyD bodyW smallT evW K0
  generalize secS 1001 [0, 2] = a0
  rfl

theorem head1 : isSec (headS 0 2 smallT) 1001 ∧ numAt (headS 0 2 smallT) 1 = 1 ∧ numAt (headS 0 2 smallT) 2 = 9 := by
  have e : headS 0 2 smallT = secS 1001 [1, 9] := rfl
  rw [e]
  exact ⟨secS_isSec (by simp) (wrap32_id (by omega)), by rw [secS_num (i := 1) (x := 1) rfl]; exact wrap32_id (by omega), by rw [secS_num (i := 2) (x := 9) rfl]; exact wrap32_id (by omega)⟩
theorem app0_load : loadOf (appF K0 0 2 smallT).kept = some (1, 9, [smallT]) := by
  rw [K1_kept]
  have hlen : ([secS 1001 [0, 2], headS 0 2 smallT, secS 1002 [6], evSec ⟨1, 0, 0, 0, 0, 0⟩, evSec ⟨3, 0, 0, 0, 0, 7⟩, evSec ⟨2, 0, 0, 0, 0, 7⟩, evSec ⟨1, 0, 1, 0, 0, 0⟩, evSec ⟨4, 0, 1, 0, 0, 7⟩, evSec ⟨7, 0, -1, 0, 0, 0⟩] ++ List.replicate 11 (sec 0)).length = 20 := rfl
  have k0 : ([secS 1001 [0, 2], headS 0 2 smallT, secS 1002 [6], evSec ⟨1, 0, 0, 0, 0, 0⟩, evSec ⟨3, 0, 0, 0, 0, 7⟩, evSec ⟨2, 0, 0, 0, 0, 7⟩, evSec ⟨1, 0, 1, 0, 0, 0⟩, evSec ⟨4, 0, 1, 0, 0, 7⟩, evSec ⟨7, 0, -1, 0, 0, 0⟩] ++ List.replicate 11 (sec 0))[0]? = some (secS 1001 [0, 2]) := rfl
  have k1 : ([secS 1001 [0, 2], headS 0 2 smallT, secS 1002 [6], evSec ⟨1, 0, 0, 0, 0, 0⟩, evSec ⟨3, 0, 0, 0, 0, 7⟩, evSec ⟨2, 0, 0, 0, 0, 7⟩, evSec ⟨1, 0, 1, 0, 0, 0⟩, evSec ⟨4, 0, 1, 0, 0, 7⟩, evSec ⟨7, 0, -1, 0, 0, 0⟩] ++ List.replicate 11 (sec 0))[1]? = some (headS 0 2 smallT) := rfl
  have k2 : ([secS 1001 [0, 2], headS 0 2 smallT, secS 1002 [6], evSec ⟨1, 0, 0, 0, 0, 0⟩, evSec ⟨3, 0, 0, 0, 0, 7⟩, evSec ⟨2, 0, 0, 0, 0, 7⟩, evSec ⟨1, 0, 1, 0, 0, 0⟩, evSec ⟨4, 0, 1, 0, 0, 7⟩, evSec ⟨7, 0, -1, 0, 0, 0⟩] ++ List.replicate 11 (sec 0))[2]? = some (secS 1002 [(smallT.length : Int)]) := rfl
  have k3 : ∀ (k : Nat) e, smallT[k]? = some e → ([secS 1001 [0, 2], headS 0 2 smallT, secS 1002 [6], evSec ⟨1, 0, 0, 0, 0, 0⟩, evSec ⟨3, 0, 0, 0, 0, 7⟩, evSec ⟨2, 0, 0, 0, 0, 7⟩, evSec ⟨1, 0, 1, 0, 0, 0⟩, evSec ⟨4, 0, 1, 0, 0, 7⟩, evSec ⟨7, 0, -1, 0, 0, 0⟩] ++ List.replicate 11 (sec 0))[2 + 1 + k]? = some (evSec e) := by
    intro k e he
    match k, he with
    | 0, he | 1, he | 2, he | 3, he | 4, he | 5, he => cases he; rfl
    | k + 6, he => cases he
  generalize ([secS 1001 [0, 2], headS 0 2 smallT, secS 1002 [6], evSec ⟨1, 0, 0, 0, 0, 0⟩, evSec ⟨3, 0, 0, 0, 0, 7⟩, evSec ⟨2, 0, 0, 0, 0, 7⟩, evSec ⟨1, 0, 1, 0, 0, 0⟩, evSec ⟨4, 0, 1, 0, 0, 7⟩, evSec ⟨7, 0, -1, 0, 0, 0⟩] ++ List.replicate 11 (sec 0)) = kk at *
  obtain ⟨i1, i2, i3⟩ := head1
  have hh : heads kk 2 = (1, 9) := by
    rw [heads, heads, heads, hd_zero k0 (by omega), hd, k1]
    simp only []
    rw [if_pos ⟨i1, by rw [i2]; decide, by rw [i2]; decide, by rw [i3]; decide, by rw [i3]; omega⟩, i2, i3]
  have hb := batchOf_new (used := 9) k2 k3 smallT_small (by decide) (by decide)
  unfold loadOf
  rw [hh]
  simp only []
  rw [if_neg (by decide), show (9 : Int).toNat = 9 from rfl, show (601 : Nat) = 600 + 1 from rfl, bats, if_pos (by omega), hb, Option.bind_some]
  show Option.map _ ((bats kk 9 600 9).map _) = _
  rw [bats_end kk 9 599]
  rfl
theorem app0_err : (appF K0 0 2 smallT).err = 0 := (Dk.flushed_of (appH_err (d := ⟨K0, []⟩) (t := 0) (u := 2) (l := smallT) K0_err (by decide) (by decide) (by decide))).1
theorem op0 : opErr ⟨K0, []⟩ = 0 := by
  rw [opErr, if_pos K0_err]
  show (match loadOf K0 with | none => (4 : Int) | some _ => 0) = 0
  rw [K0_load]
theorem op1 : opErr (appF K0 0 2 smallT) = 0 := by
  rw [opErr, if_pos app0_err, app0_load]
theorem ways0 : (appWays K0 0 2 smallT).length = 10 := by
  simp only [appWays, List.length_append, prefW_len, List.length_singleton]
  rfl

end Go.Proofs.Ytkojeofegoljpaa
