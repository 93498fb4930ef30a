/- What reads in a world whose elder blocks are hidden: it stays when those turn. The state of a reader that builds a struct: its cells, what is built, the result. The document's IsToken and JoinOf compute what they should. Each lemma states its own conditions. -/
import Derived.Test.YtmfjlcpjemccmaaGreatDoorSms01
import Derived.Test.YtmfjlcpjemccmaaGreatDoorSms05
import Derived.Test.YtmfjlcpjemccmaaGreatDoorSms04
namespace Go.Proofs.YtmfjlcpjemccmaaGreatDoor
open Go.RowKit
/-- the world with all blocks below a bound hidden -/
def low (B : Nat) (w : World) : World := { w with heap := w.heap.mapIdx fun i o => if i < B then .cells #[] 0 (0, 0) else o }
section
variable {B : Nat} {w w' : World}
theorem low_size (B : Nat) (w : World) : (low B w).heap.size = w.heap.size := by simp [low]
theorem low_at (k : Nat) : (low B w).heap[k]? = w.heap[k]?.map fun o => if k < B then .cells #[] 0 (0, 0) else o := by
 unfold low
 exact Array.getElem?_mapIdx
theorem low_ge {k : Nat} (h : B ≤ k) : (low B w).heap[k]? = w.heap[k]? := by
 rw [low_at]
 cases w.heap[k]? with
 | none => rfl
 | some o => simp only [Option.map_some]; rw [if_neg (by omega)]
theorem low_cell {b o : Nat} {v : Value} (h : (low B w).cell? ⟨b, o, none⟩ = some v) : B ≤ b ∧ w.cell? ⟨b, o, none⟩ = some v := by
 by_cases hb : b < B
 ·unfold World.cell? at h
  simp only [low_at] at h
  cases hw : w.heap[b]? with
  | none => rw [hw] at h; simp at h
  | some ob => rw [hw] at h; simp [hb] at h
 ·exact ⟨by omega, (World.cell?_of_block (low_ge (by dsimp only; omega))).symm.trans h⟩
theorem low_bel (h1 : w'.os = w.os) (h2 : w'.tape = w.tape) (h3 : w'.output = w.output) (h4 : w.heap.size ≤ w'.heap.size) (h5 : ∀ k, B ≤ k → k < w.heap.size → w'.heap[k]? = w.heap[k]?) : Bel (low B w) (low B w') := by
 refine ⟨h1, h2, h3, by rw [low_size, low_size]; exact h4, fun k hk => ?_⟩
 rw [low_size] at hk
 by_cases hb : k < B
 ·rw [low_at, low_at, Array.getElem?_eq_getElem hk, Array.getElem?_eq_getElem (Nat.lt_of_lt_of_le hk h4)]
  simp [hb]
 ·rw [low_ge (by omega), low_ge (by omega)]
  exact h5 k (by omega) hk
theorem low_grown {g : Nat} (h : w.grownBy w' (some g)) (hg : g < B) : Bel (low B w) (low B w') :=
 low_bel h.os h.tape h.output h.size fun k hk hlt => h.block k hlt (fun e => by
  have := Option.some.inj e
  omega)
theorem low_belB (h : Bel w w') : Bel (low B w) (low B w') := low_bel h.os h.tape h.output h.size fun k _ hlt => h.block k hlt
theorem low_set (w : World) {g i : Nat} (v : Value) (hg : g < B) : Bel (low B w) (low B (w.setCell ⟨g, i, none⟩ v)) := by
 have h := (Below.refl g w).setCell (p := ⟨g, i, none⟩) (Nat.le_refl _) v
 exact low_bel h.os h.tape h.output h.size fun k hk _ => heap_setCell_other w ⟨g, i, none⟩ k v (by dsimp only; omega)
end
/-- what reads on when more can be read -/
def More {α : Type} (r : Rep α) : Prop := ∀ {X Y : World}, (∀ b o v, X.cell? ⟨b, o, none⟩ = some v → Y.cell? ⟨b, o, none⟩ = some v) → ∀ {cs x}, r.R X cs x → r.R Y cs x
theorem Sl.more {α : Type} {r : Rep α} (hm : More r) {X Y : World} (hc : ∀ b o v, X.cell? ⟨b, o, none⟩ = some v → Y.cell? ⟨b, o, none⟩ = some v) {v : Value} {xs : List α} (h : Sl r X v xs) : Sl r Y v xs := by
 obtain ⟨A, c, h1, h2, h3, h4⟩ := h
 refine ⟨A, c, h1, h2, h3, fun hp => ?_⟩
 obtain ⟨b, o, hA, hx⟩ := h4 hp
 exact ⟨b, o, hA, fun k x hk => (hx k x hk).imp fun cs ⟨h5, h6⟩ => ⟨hm hc h5, fun j u hu => hc _ _ _ (h6 j u hu)⟩⟩
section
variable {B : Nat} {w w' : World}
theorem low_upc : ∀ b o v, (low B w).cell? ⟨b, o, none⟩ = some v → w.cell? ⟨b, o, none⟩ = some v := fun _ _ _ h => (low_cell h).2
theorem low_monoc {B' : Nat} (hB : B' ≤ B) : ∀ b o v, (low B w).cell? ⟨b, o, none⟩ = some v → (low B' w).cell? ⟨b, o, none⟩ = some v :=
 fun _ _ _ h => (World.cell?_of_block (low_ge (by have := (low_cell h).1; dsimp only; omega))).trans (low_cell h).2
theorem low_up {α : Type} {r : Rep α} (hm : More r) {v : Value} {xs : List α} (h : Sl r (low B w) v xs) : Sl r w v xs := h.more hm low_upc
theorem low_mono {α : Type} {r : Rep α} (hm : More r) {B' : Nat} (hB : B' ≤ B) {v : Value} {xs : List α} (h : Sl r (low B w) v xs) : Sl r (low B' w) v xs := h.more hm (low_monoc hB)
theorem low_to {b o : Nat} {cs : List Value} (h : CellsAt w b o cs) (hb : B ≤ b) : CellsAt (low B w) b o cs := fun j u hu => (World.cell?_of_block (low_ge hb)).trans (h j u hu)
theorem low_blk {G : Nat} {t : TypeId} {cs : Array Value} (h : Blk w G t cs) (hG : B ≤ G) : Blk (low B w) G t cs := (low_ge hG).trans h
theorem low_unb {G : Nat} {t : TypeId} {cs : Array Value} (h : Blk (low B w) G t cs) (hG : B ≤ G) : Blk w G t cs := (low_ge hG).symm.trans h
end
/-- the reader, what is built (block q), the result's cells (block R); and what lies behind stays as it was in X -/
def Bld (w X W : World) (g : Nat) (lv : Value) (E : Nat) (r : RS) (t : TypeId) (R q : Nat) (zs cs : Array Value) : Prop :=
 Rd W g lv r.1 E r.2 ∧ Blk W q t cs ∧ Blk W R t zs ∧ w.grownBy W (some g) ∧ (g < w.heap.size ∧ w.heap.size ≤ R ∧ R < q) ∧ q + 1 ≤ W.heap.size ∧ Bel (low (q + 1) X) (low (q + 1) W)
section
variable {w X W W' : World} {g : Nat} {lv : Value} {E : Nat} {r : RS} {t : TypeId} {R q : Nat} {zs cs : Array Value}
theorem Bld.start {W1 : World} (h : Rd w g lv r.1 E r.2) (t : TypeId) (zs cs : Array Value) (hb : Bel (w.alloc (.cells zs t)) W1) : Bld w (W1.alloc (.cells cs t)) (W1.alloc (.cells cs t)) g lv E r t w.heap.size W1.heap.size zs cs := by
 have h1 := (((Bel.rfl_ w).al (.cells zs t)).tr hb).al (.cells cs t)
 have h2 := hb.size
 rw [World.size_alloc] at h2
 exact ⟨h.keep h1, Blk.new _ _ _, (Blk.new w t zs).keep (hb.al _), h1.grown _, ⟨h.lt, Nat.le_refl _, h2⟩, by simp, Bel.rfl_ _⟩
theorem Bld.keep (h : Bld w X W g lv E r t R q zs cs) (hb : Bel W W') : Bld w X W' g lv E r t R q zs cs := by
 obtain ⟨h1, h2, h3, h4, h5, h6, h7⟩ := h
 exact ⟨h1.keep hb, h2.keep hb, h3.keep hb, h4.trans (hb.grown _), h5, Nat.le_trans h6 hb.size, h7.tr (low_belB hb)⟩
theorem Bld.grown {r' : RS} (h : Bld w X W g lv E r t R q zs cs) (hg : W.grownBy W' (some g)) (hp : Rd W' g lv r'.1 E r'.2) : Bld w X W' g lv E r' t R q zs cs := by
 obtain ⟨h1, h2, h3, h4, h5, h6, h7⟩ := h
 exact ⟨hp, h2.grown hg (by simp; omega), h3.grown hg (by simp; omega), h4.trans hg, h5, Nat.le_trans h6 hg.size, h7.tr (low_grown hg (by omega))⟩
theorem Bld.bad (h : Bld w X W g lv E r t R q zs cs) : Bld w X (W.setCell ⟨g, 3, none⟩ (.bool true)) g lv E (r.1, true) t R q zs cs := by
 have := h.1
 exact h.grown (r' := (r.1, true)) (grownS_one W g 3 (.bool true)) this.bad
theorem Bld.fresh (h : Bld w X W g lv E r t R q zs cs) : Bld w W W g lv E r t R q zs cs := by
 obtain ⟨h1, h2, h3, h4, h5, h6, h7⟩ := h
 exact ⟨h1, h2, h3, h4, h5, h6, Bel.rfl_ _⟩
theorem Bld.lt (h : Bld w X W g lv E r t R q zs cs) : g < w.heap.size ∧ w.heap.size ≤ R ∧ R < q := h.2.2.2.2.1
theorem Bld.size (h : Bld w X W g lv E r t R q zs cs) : q + 1 ≤ W.heap.size := h.2.2.2.2.2.1
theorem Bld.grew (h : Bld w X W g lv E r t R q zs cs) : w.grownBy W (some g) := h.2.2.2.1
theorem Bld.low_ (h : Bld w X W g lv E r t R q zs cs) : Bel (low (q + 1) X) (low (q + 1) W) := h.2.2.2.2.2.2
theorem Bld.put (h : Bld w X W g lv E r t R q zs cs) (i : Nat) (u : Value) : Bld w X (W.setCell ⟨q, i, none⟩ u) g lv E r t R q zs (cs.setIfInBounds i u) := by
 obtain ⟨h1, h2, h3, h4, h5, h6, h7⟩ := h
 refine ⟨Blk.far_ h1 (by omega) i u, h2.set_ i u, Blk.far_ h3 (by omega) i u, grownNew h4 (by omega) i u, h5, ?_, h7.tr (low_set W u (by omega))⟩
 simpa using h6
theorem Bld.to {cs' : Array Value} (h : Bld w X W g lv E r t R q zs cs) (he : cs = cs') : Bld w X W g lv E r t R q zs cs' := he ▸ h
theorem Bld.rd (h : Bld w X W g lv E r t R q zs cs) : W.cell? ⟨g, 3, none⟩ = some (.bool r.2) ∧ W.frozen? ⟨g, 3, none⟩ = false := ⟨h.1.go.2.2.2.1, h.1.go.2.2.2.2.2⟩
theorem Bld.cell (h : Bld w X W g lv E r t R q zs cs) (i : Nat) {v : Value} (hv : cs[i]? = some v) : W.cell? ⟨q, i, none⟩ = some v := h.2.1.cell hv
theorem Bld.frozen (h : Bld w X W g lv E r t R q zs cs) (i : Nat) : W.frozen? ⟨q, i, none⟩ = false := h.2.1.frozen i
theorem Bld.rcell (h : Bld w X W g lv E r t R q zs cs) (i : Nat) {v : Value} (hv : zs[i]? = some v) : W.cell? ⟨R, i, none⟩ = some v := h.2.2.1.cell hv
theorem Bld.rfrozen (h : Bld w X W g lv E r t R q zs cs) (i : Nat) : W.frozen? ⟨R, i, none⟩ = false := h.2.2.1.frozen i
/-- a store into the result -/
theorem Bld.res (h : Bld w X W g lv E r t R q zs cs) (i : Nat) (u : Value) : Bld w X (W.setCell ⟨R, i, none⟩ u) g lv E r t R q (zs.setIfInBounds i u) cs := by
 obtain ⟨h1, h2, h3, h4, h5, h6, h7⟩ := h
 refine ⟨Blk.far_ h1 (by omega) i u, Blk.far_ h2 (by omega) i u, h3.set_ i u, grownNew h4 (by omega) i u, h5, ?_, h7.tr (low_set W u (by omega))⟩
 simpa using h6
theorem Bld.bel (h : Bld w X W g lv E r t R q zs cs) {w0 : World} (h0 : Bel w0 w) (hg : w0.heap.size ≤ g) : Bel w0 W := grownBel h0 hg h.grew
end
theorem isTok_emp (kind : Int) : isTok kind emp = false := by
 cases h : isTok kind emp with
 | false => rfl
 | true =>
  obtain ⟨_, _, h3, h4⟩ := isTok_iff.1 h
  have h5 := tokAt_pos (tokErr_kind h4)
  rw [h3] at h5
  exact absurd h5.1 (Nat.lt_irrefl 0)
theorem isTok_kn {kind : Int} {s : ByteArray} {k n : Nat} (hs : s.size ≤ 6000) (h : tokAt s 0 = (k, n)) : isTok kind s = decide (kind = k ∧ n = s.size ∧ tokErr s 0 = 0) := by
 unfold isTok
 rw [h]
 congr 1
 simp only [eq_iff_iff]
 exact ⟨fun ⟨_, a, b, c⟩ => ⟨a, b, c⟩, fun ⟨a, b, c⟩ => ⟨hs, a, b, c⟩⟩
set_option maxRecDepth 20000 in
set_option maxHeartbeats 1000000 in
theorem isToken_ref (kind : Int) (s : ByteArray) (w : World) (hm : s.size ≤ maxLen) :
  Calls Tryz.prog 82 #[.int .i64 kind, .string s] w fun r w' => r = .returned (.bool (isTok kind s)) ∧ w = w' := by
 by_cases he : s = emp
 ·subst he
  have HR := Hi_ (isTok_emp kind)
  have d0 : emp.toList = [] := by rw [toList_data]; rfl
  go_enter Tryz.func82, Tryz.ntmps82
  go_wp2
  go_ret
  exact ⟨ret_bool HR.out.symm, rfl⟩
 ·have d0 : s.toList.isEmpty = false := by
   cases h : s.toList.isEmpty with
   | false => rfl
   | true =>
    rw [List.isEmpty_iff, toList_data] at h
    exact absurd (by cases s; simp at h; rw [h]; rfl) he
  have hpos : 0 < s.size := by
   rcases Nat.eq_zero_or_pos s.size with h | h
   ·exfalso; apply he; apply ba_ext
    ·rw [h]; rfl
    ·intro k hk; omega
   ·exact h
  clear he
  by_cases hs : 6000 < s.size
  ·have HR : Hid (isTok kind s = false) := Hi_ (by unfold isTok; rw [decide_eq_false_iff_not]; rintro ⟨h, _⟩; omega)
   go_enter Tryz.func82, Tryz.ntmps82
   go_wp2
   go_ret
   exact ⟨ret_bool HR.out.symm, rfl⟩
  ·clear hm
   by_cases hk : kind = 0
   ·subst hk
    have HR : Hid (isTok 0 s = false) := Hi_ (by
     unfold isTok; rw [decide_eq_false_iff_not]; rintro ⟨_, h1, _, h2⟩
     exact tokErr_kind h2 (by omega))
    go_enter Tryz.func82, Tryz.ntmps82
    go_wp2
    go_ret
    exact ⟨ret_bool HR.out.symm, rfl⟩
   ·have dk : (kind == 0) = false := by simpa using hk
    obtain ⟨k, n, hkn⟩ : ∃ k n, tokAt s 0 = (k, n) := ⟨_, _, rfl⟩
    have hk4 := tokAt_kind s 0
    have HE := Hi_ (tokErr_bt s 0)
    have HR := Hi_ (isTok_kn (kind := kind) (by omega) hkn)
    have hok : ok64 s.size := by unfold ok64; omega
    have HOK := Hi_ hok; clear hok
    rw [hkn] at hk4 HE
    simp only at hk4
    have HK := Hi_ hkn; clear hkn
    rcases hk4 with rfl | rfl | rfl | rfl
    ·have dq : ((0 : Int) == kind) = false := by simp; omega
     have HF : Hid (isTok kind s = false) := Hi_ (by rw [HR.out, decide_eq_false (by rintro ⟨h, _⟩; omega)])
     have HTA := Hi_ (fun W => tokenAt_kn s 0 n 0 W HOK.out hpos (by rw [HK.out]; rfl) (by rw [HK.out]))
     clear HE HR HK
     go_enter Tryz.func82, Tryz.ntmps82
     go_wp2_with (go_at_call 92; refine (HTA.out _).mono ?_; rintro e w' ⟨rfl, rfl⟩)
     go_ret
     first | exact ⟨ret_bool HF.out.symm, rfl⟩ | exact ⟨ret_bool (by rw [HF.out]; simp; omega), rfl⟩
    ·by_cases hq : kind = 1
     ·subst hq
      by_cases hn : n = s.size
      ·have dn : ((n : Int) == (s.size : Int)) = true := by simp; omega
       by_cases h12 : 12 < n
       ·have HF : Hid (isTok 1 s = false) := Hi_ (by rw [HR.out, decide_eq_false (by rintro ⟨_, _, h⟩; rw [HE.out, if_neg (by simp), if_pos (.inl ⟨rfl, h12⟩)] at h; omega)])
        have HTA := Hi_ (fun W => tokenAt_kn s 0 n 1 W HOK.out hpos (by rw [HK.out]; rfl) (by rw [HK.out]))
        clear HE HR HK
        go_enter Tryz.func82, Tryz.ntmps82
        go_wp2_with (go_at_call 92; refine (HTA.out _).mono ?_; rintro e w' ⟨rfl, rfl⟩)
        go_ret
        first | exact ⟨ret_bool HF.out.symm, rfl⟩ | exact ⟨ret_bool (by rw [HF.out]; simp; omega), rfl⟩
       ·have HF : Hid (isTok 1 s = true) := Hi_ (by rw [HR.out, decide_eq_true ⟨rfl, hn, by rw [HE.out, if_neg (by simp), if_neg (by simp; omega), if_neg (by simp)]⟩])
        have HTA := Hi_ (fun W => tokenAt_kn s 0 n 1 W HOK.out hpos (by rw [HK.out]; rfl) (by rw [HK.out]))
        clear HE HR HK
        go_enter Tryz.func82, Tryz.ntmps82
        go_wp2_with (go_at_call 92; refine (HTA.out _).mono ?_; rintro e w' ⟨rfl, rfl⟩)
        go_ret
        first | exact ⟨ret_bool HF.out.symm, rfl⟩ | exact ⟨ret_bool (by rw [HF.out]; simp; omega), rfl⟩
      ·have dn : ((n : Int) == (s.size : Int)) = false := by simp; omega
       have HF : Hid (isTok 1 s = false) := Hi_ (by rw [HR.out, decide_eq_false (by rintro ⟨_, h, _⟩; omega)])
       have HTA := Hi_ (fun W => tokenAt_kn s 0 n 1 W HOK.out hpos (by rw [HK.out]; rfl) (by rw [HK.out]))
       clear HE HR HK
       go_enter Tryz.func82, Tryz.ntmps82
       go_wp2_with (go_at_call 92; refine (HTA.out _).mono ?_; rintro e w' ⟨rfl, rfl⟩)
       go_ret
       first | exact ⟨ret_bool HF.out.symm, rfl⟩ | exact ⟨ret_bool (by rw [HF.out]; simp; omega), rfl⟩
     ·have dq : ((1 : Int) == kind) = false := by simp; omega
      have HF : Hid (isTok kind s = false) := Hi_ (by rw [HR.out, decide_eq_false (by rintro ⟨h, _⟩; omega)])
      have HTA := Hi_ (fun W => tokenAt_kn s 0 n 1 W HOK.out hpos (by rw [HK.out]; rfl) (by rw [HK.out]))
      clear HE HR HK
      go_enter Tryz.func82, Tryz.ntmps82
      go_wp2_with (go_at_call 92; refine (HTA.out _).mono ?_; rintro e w' ⟨rfl, rfl⟩)
      go_ret
      first | exact ⟨ret_bool HF.out.symm, rfl⟩ | exact ⟨ret_bool (by rw [HF.out]; simp; omega), rfl⟩
    ·by_cases hq : kind = 2
     ·subst hq
      by_cases hn : n = s.size
      ·have dn : ((n : Int) == (s.size : Int)) = true := by simp; omega
       by_cases h7 : 7 < n
       ·have HF : Hid (isTok 2 s = false) := Hi_ (by rw [HR.out, decide_eq_false (by rintro ⟨_, _, h⟩; rw [HE.out, if_neg (by simp), if_pos (.inr ⟨rfl, h7⟩)] at h; omega)])
        have HTA := Hi_ (fun W => tokenAt_kn s 0 n 2 W HOK.out hpos (by rw [HK.out]; rfl) (by rw [HK.out]))
        clear HE HR HK
        go_enter Tryz.func82, Tryz.ntmps82
        go_wp2_with (go_at_call 92; refine (HTA.out _).mono ?_; rintro e w' ⟨rfl, rfl⟩)
        go_ret
        first | exact ⟨ret_bool HF.out.symm, rfl⟩ | exact ⟨ret_bool (by rw [HF.out]; simp; omega), rfl⟩
       ·by_cases h1 : 1 < n
        ·by_cases h48 : s[0].toNat = 48
         ·have d48 : ((s[0].toNat : Int) == 48) = true := by simp; omega
          have H48 := Hi_ h48; clear h48
          have HF : Hid (isTok 2 s = false) := Hi_ (by rw [HR.out, decide_eq_false (by rintro ⟨_, _, h⟩; rw [HE.out, if_neg (by simp), if_neg (by simp; omega), if_pos ⟨rfl, h1, by rw [bt_in hpos]; exact H48.out⟩] at h; omega)])
          have HTA := Hi_ (fun W => tokenAt_kn s 0 n 2 W HOK.out hpos (by rw [HK.out]; rfl) (by rw [HK.out]))
          clear HE HR HK
          go_enter Tryz.func82, Tryz.ntmps82
          go_wp2_with (go_at_call 92; refine (HTA.out _).mono ?_; rintro e w' ⟨rfl, rfl⟩)
          go_ret
          first | exact ⟨ret_bool HF.out.symm, rfl⟩ | exact ⟨ret_bool (by rw [HF.out]; simp; omega), rfl⟩
         ·have d48 : ((s[0].toNat : Int) == 48) = false := by simp; omega
          have H48 := Hi_ h48; clear h48
          have HF : Hid (isTok 2 s = true) := Hi_ (by rw [HR.out, decide_eq_true ⟨rfl, hn, by rw [HE.out, if_neg (by simp), if_neg (by simp; omega), if_neg (by rw [bt_in hpos]; exact fun h => H48.out h.2.2)]⟩])
          have HTA := Hi_ (fun W => tokenAt_kn s 0 n 2 W HOK.out hpos (by rw [HK.out]; rfl) (by rw [HK.out]))
          clear HE HR HK
          go_enter Tryz.func82, Tryz.ntmps82
          go_wp2_with (go_at_call 92; refine (HTA.out _).mono ?_; rintro e w' ⟨rfl, rfl⟩)
          go_ret
          first | exact ⟨ret_bool HF.out.symm, rfl⟩ | exact ⟨ret_bool (by rw [HF.out]; simp; omega), rfl⟩
        ·have HF : Hid (isTok 2 s = true) := Hi_ (by rw [HR.out, decide_eq_true ⟨rfl, hn, by rw [HE.out, if_neg (by simp), if_neg (by simp; omega), if_neg (by simp; omega)]⟩])
         have HTA := Hi_ (fun W => tokenAt_kn s 0 n 2 W HOK.out hpos (by rw [HK.out]; rfl) (by rw [HK.out]))
         clear HE HR HK
         go_enter Tryz.func82, Tryz.ntmps82
         go_wp2_with (go_at_call 92; refine (HTA.out _).mono ?_; rintro e w' ⟨rfl, rfl⟩)
         go_ret
         first | exact ⟨ret_bool HF.out.symm, rfl⟩ | exact ⟨ret_bool (by rw [HF.out]; simp; omega), rfl⟩
      ·have dn : ((n : Int) == (s.size : Int)) = false := by simp; omega
       have HF : Hid (isTok 2 s = false) := Hi_ (by rw [HR.out, decide_eq_false (by rintro ⟨_, h, _⟩; omega)])
       have HTA := Hi_ (fun W => tokenAt_kn s 0 n 2 W HOK.out hpos (by rw [HK.out]; rfl) (by rw [HK.out]))
       clear HE HR HK
       go_enter Tryz.func82, Tryz.ntmps82
       go_wp2_with (go_at_call 92; refine (HTA.out _).mono ?_; rintro e w' ⟨rfl, rfl⟩)
       go_ret
       first | exact ⟨ret_bool HF.out.symm, rfl⟩ | exact ⟨ret_bool (by rw [HF.out]; simp; omega), rfl⟩
     ·have dq : ((2 : Int) == kind) = false := by simp; omega
      have HF : Hid (isTok kind s = false) := Hi_ (by rw [HR.out, decide_eq_false (by rintro ⟨h, _⟩; omega)])
      have HTA := Hi_ (fun W => tokenAt_kn s 0 n 2 W HOK.out hpos (by rw [HK.out]; rfl) (by rw [HK.out]))
      clear HE HR HK
      go_enter Tryz.func82, Tryz.ntmps82
      go_wp2_with (go_at_call 92; refine (HTA.out _).mono ?_; rintro e w' ⟨rfl, rfl⟩)
      go_ret
      first | exact ⟨ret_bool HF.out.symm, rfl⟩ | exact ⟨ret_bool (by rw [HF.out]; simp; omega), rfl⟩
    ·by_cases hq : kind = 3
     ·subst hq
      by_cases hn : n = s.size
      ·have dn : ((n : Int) == (s.size : Int)) = true := by simp; omega
       have HF : Hid (isTok 3 s = true) := Hi_ (by rw [HR.out, decide_eq_true ⟨rfl, hn, by rw [HE.out, if_neg (by simp), if_neg (by simp), if_neg (by simp)]⟩])
       have HTA := Hi_ (fun W => tokenAt_kn s 0 n 3 W HOK.out hpos (by rw [HK.out]; rfl) (by rw [HK.out]))
       clear HE HR HK
       go_enter Tryz.func82, Tryz.ntmps82
       go_wp2_with (go_at_call 92; refine (HTA.out _).mono ?_; rintro e w' ⟨rfl, rfl⟩)
       go_ret
       first | exact ⟨ret_bool HF.out.symm, rfl⟩ | exact ⟨ret_bool (by rw [HF.out]; simp; omega), rfl⟩
      ·have dn : ((n : Int) == (s.size : Int)) = false := by simp; omega
       have HF : Hid (isTok 3 s = false) := Hi_ (by rw [HR.out, decide_eq_false (by rintro ⟨_, h, _⟩; omega)])
       have HTA := Hi_ (fun W => tokenAt_kn s 0 n 3 W HOK.out hpos (by rw [HK.out]; rfl) (by rw [HK.out]))
       clear HE HR HK
       go_enter Tryz.func82, Tryz.ntmps82
       go_wp2_with (go_at_call 92; refine (HTA.out _).mono ?_; rintro e w' ⟨rfl, rfl⟩)
       go_ret
       first | exact ⟨ret_bool HF.out.symm, rfl⟩ | exact ⟨ret_bool (by rw [HF.out]; simp; omega), rfl⟩
     ·have dq : ((3 : Int) == kind) = false := by simp; omega
      have HF : Hid (isTok kind s = false) := Hi_ (by rw [HR.out, decide_eq_false (by rintro ⟨h, _⟩; omega)])
      have HTA := Hi_ (fun W => tokenAt_kn s 0 n 3 W HOK.out hpos (by rw [HK.out]; rfl) (by rw [HK.out]))
      clear HE HR HK
      go_enter Tryz.func82, Tryz.ntmps82
      go_wp2_with (go_at_call 92; refine (HTA.out _).mono ?_; rintro e w' ⟨rfl, rfl⟩)
      go_ret
      first | exact ⟨ret_bool HF.out.symm, rfl⟩ | exact ⟨ret_bool (by rw [HF.out]; simp; omega), rfl⟩
theorem emp_app (b : ByteArray) : emp ++ b = b := by
 apply ba_ext
 ·rw [ByteArray.size_append]; exact Nat.zero_add _
 ·intro k hk
  rw [bt_append, if_neg (show ¬ k < emp.size from Nat.not_lt_zero k)]; rfl
theorem take_snoc {α : Type} {l : List α} {k : Nat} {t : α} (ht : l[k]? = some t) : l.take (k + 1) = l.take k ++ [t] := by
 rw [List.take_add_one, ht]; rfl
end Go.Proofs.YtmfjlcpjemccmaaGreatDoor
