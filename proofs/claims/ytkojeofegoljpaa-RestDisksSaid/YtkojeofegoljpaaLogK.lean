/- A batch appended: walked. Each lemma states its own conditions. -/
import Derived.Test.YtkojeofegoljpaaLogJ
import Derived.Test.YtkojeofegoljpaaLogF
namespace Go.Proofs.Ytkojeofegoljpaa
open Go.RowKit

def appErr (d : Dk) (l : List Ev) : Int :=
  if d.err = 0 then if 60 < l.length then 2 else if l.all evSmall = true then match loadOf d.kept with
    | none => 4
    | some p => if d.kept.length < p.2.1 + 1 + l.length then 8 else 0
  else 3 else d.err
def evSec (e : Ev) : ByteArray := secS 1003 [e.kind, e.frame, e.at_, e.var, e.index, e.value]
def evW : Nat → List Ev → List Wr
  | _, [] => []
  | a, e :: l => ⟨a, evSec e⟩ :: evW (a + 1) l
/-- what is written of a batch -/
def bodyW (u : Nat) (l : List Ev) : List Wr := ⟨u, secS 1002 [l.length]⟩ :: evW (u + 1) l
theorem evW_get : ∀ (l : List Ev) (a k : Nat) (e : Ev), l[k]? = some e → (evW a l)[k]? = some ⟨(a + k : Nat), evSec e⟩
  | [], a, k, e, h => by simp at h
  | x :: l, a, 0, e, h => by
    obtain rfl : x = e := by simpa using h
    rfl
  | x :: l, a, k + 1, e, h => by
    rw [evW, List.getElem?_cons_succ, evW_get l (a + 1) k e (by simpa using h), show a + 1 + k = a + (k + 1) by omega]
theorem evW_len : ∀ (l : List Ev) (a : Nat), (evW a l).length = l.length
  | [], _ => rfl
  | _ :: l, a => by rw [evW, List.length_cons, List.length_cons, evW_len l]
theorem evW_in : ∀ (l : List Ev) (a n : Nat) (x : Wr), x ∈ evW a l → a + l.length ≤ n → (0 ≤ x.sector ∧ x.sector < n) ∧ x.bytes.size = 32
  | [], _, _, x, h, _ => by simp [evW] at h
  | e :: l, a, n, x, h, hn => by
    rw [evW] at h
    rw [List.length_cons] at hn
    rcases List.mem_cons.1 h with rfl | h
    · exact ⟨⟨by simp, by simp; omega⟩, secS_size (by simp)⟩
    · exact evW_in l (a + 1) n x h (by omega)
def prefW (kept : List ByteArray) (ws : List Wr) (k : Nat) : List Dk := (List.range k).map fun i => ⟨kept, ws.take (i + 1)⟩
theorem prefW_succ (kept : List ByteArray) (ws : List Wr) (k : Nat) : prefW kept ws (k + 1) = prefW kept ws k ++ [⟨kept, ws.take (k + 1)⟩] := by simp [prefW, List.range_succ]
theorem prefW_len (kept : List ByteArray) (ws : List Wr) (k : Nat) : (prefW kept ws k).length = k := by simp [prefW]
theorem bodyW_take {u : Nat} {l : List Ev} {k : Nat} {e : Ev} (h : l[k]? = some e) : (bodyW u l).take (k + 2) = (bodyW u l).take (k + 1) ++ [⟨(u + 1 + k : Nat), evSec e⟩] := by
  rw [List.take_add_one (i := k + 1)]
  congr 1
  rw [bodyW, List.getElem?_cons_succ, evW_get l _ k e h]
  rfl
/-- the disks along the way -/
def bodyD (kept : List ByteArray) (u : Nat) (l : List Ev) : Dk := ⟨kept, bodyW u l⟩
def headS (t : Int) (u : Nat) (l : List Ev) : ByteArray := secS 1001 [t + 1, (u + 1 + l.length : Nat)]
def appH (kept : List ByteArray) (t : Int) (u : Nat) (l : List Ev) : Dk := (bodyD kept u l).flushed.put ((t + 1) % 2) (headS t u l)
def appF (kept : List ByteArray) (t : Int) (u : Nat) (l : List Ev) : Dk := (appH kept t u l).flushed
def appWays (kept : List ByteArray) (t : Int) (u : Nat) (l : List Ev) : List Dk := ((prefW kept (bodyW u l) (l.length + 1) ++ [(bodyD kept u l).flushed]) ++ [appH kept t u l]) ++ [appF kept t u l]
theorem bodyD_err {d : Dk} {u : Nat} {l : List Ev} (h : d.err = 0) (hl : l.length ≤ 60) (hu : u + 1 + l.length ≤ d.kept.length) : (bodyD d.kept u l).err = 0 := by
  obtain ⟨h1, h2, _, _⟩ := Dk.err_zero h
  refine Dk.err_of h1 h2 ?_ ?_
  · show (bodyW u l).length ≤ 600
    rw [bodyW, List.length_cons, evW_len]
    omega
  · intro x hx
    rcases List.mem_cons.1 hx with rfl | hx
    · exact ⟨⟨by simp, by show ((u : Nat) : Int) < d.kept.length; omega⟩, secS_size (by simp)⟩
    · exact evW_in l (u + 1) d.kept.length x hx (by omega)
theorem appH_err {d : Dk} {t : Int} {u : Nat} {l : List Ev} (h : d.err = 0) (hl : l.length ≤ 60) (hu : u + 1 + l.length ≤ d.kept.length) (hu2 : 2 ≤ u) : (appH d.kept t u l).err = 0 := by
  obtain ⟨f1, f2, f3⟩ := Dk.flushed_of (bodyD_err h hl hu)
  refine put_err ?_
  unfold Dk.wr
  rw [if_pos (Dk.one_of f1 ⟨by omega, by rw [f2]; show (t + 1) % 2 < (d.kept.length : Int); omega⟩), if_pos (show (headS t u l).size = 32 from secS_size (by simp)), f3, if_neg (by simp)]
theorem own_far {w : World} {B : Nat} {e : TypeId} {size n : Nat} {v : Value} {xs : List Value} (h : w.ownsRow B e size v n xs) {R : Nat} (hR : R < B) (i : Nat) (u : Value) : (w.setCell ⟨R, i, none⟩ u).ownsRow B e size v n xs := by
  refine World.ownsRow.kept h (grown_cell w R i u) ?_
  cases hv : v.ownBlock with
  | none => exact .inl rfl
  | some k =>
    have := (h.lt k hv).1
    exact .inr (fun e => by have : k = R := by simpa using e
                            omega)
theorem DkO.farR {w : World} {B : Nat} {d : Dk} {val : Value} (h : DkO w B d val) {R : Nat} (hR : R < B) (i : Nat) (u : Value) : DkO (w.setCell ⟨R, i, none⟩ u) B d val := by
  obtain ⟨v1, v2, rfl, o1, o2⟩ := h
  exact ⟨v1, v2, rfl, own_far o1 hR i u, own_far o2 hR i u⟩
theorem WayO.farR {w : World} {B : Nat} {v : Value} {ways : List Dk} (h : WayO w B v ways) {R : Nat} (hR : R < B) (i : Nat) (u : Value) : WayO (w.setCell ⟨R, i, none⟩ u) B v ways := by
  obtain ⟨ps, h1, h2, h3⟩ := h
  exact ⟨ps, own_far h1 hR i u, h2, fun j p d hp hd => (h3 j p d hp hd).farR hR i u⟩
theorem WayO.base {w : World} {B B' : Nat} {v : Value} {ways : List Dk} (h : WayO w B v ways) (hb : B' ≤ B) : WayO w B' v ways := by
  obtain ⟨ps, h1, h2, h3⟩ := h
  exact ⟨ps, own_base h1 hb, h2, fun j p d hp hd => (h3 j p d hp hd).base hb⟩
theorem loadOf_in {kept : List ByteArray} {t : Int} {u : Nat} {bs : List (List Ev)} (h : loadOf kept = some (t, u, bs)) : 0 ≤ t ∧ t ≤ 2147483647 ∧ 2 ≤ u ∧ u ≤ kept.length := by
  unfold loadOf at h
  split at h
  · cases h
  · rename_i h0
    obtain ⟨⟨_, h1⟩, h2, _⟩ := heads_in kept 2
    obtain ⟨h3, h4⟩ := h2 (by omega)
    cases hb : bats kept (heads kept 2).2.toNat 601 2 with
    | none => rw [hb] at h; cases h
    | some b =>
      rw [hb] at h
      simp only [Option.map_some, Option.some.injEq, Prod.mk.injEq] at h
      obtain ⟨rfl, rfl, _⟩ := h
      omega
def AppIs (w : World) (d : Dk) (l : List Ev) (r : Ending) (w' : World) : Prop :=
  ∃ val v, r = .returned (.tuple #[val, v, .int .i64 (appErr d l)]) ∧ (appErr d l ≠ 0 → val = emptyD ∧ v = .slice none 0 0) ∧
    (appErr d l = 0 → ∀ t u bs, loadOf d.kept = some (t, u, bs) → DkO w' w.heap.size (appF d.kept t u l) val ∧ WayO w' w.heap.size v (appWays d.kept t u l))
/-- a walker, however its disk lies -/
def WkV (w : World) (g : Nat) (d : Dk) (ways : List Dk) : Prop := ∃ x y v, Blk w g 90 #[x, y, v] ∧ DkV w d (.agg #[x, y]) ∧ WayO w (g + 1) v ways
theorem WkO.wkv {w : World} {g : Nat} {d : Dk} {ways : List Dk} (h : WkO w g d ways) : WkV w g d ways := by
  obtain ⟨x, y, v, h1, h2, h3⟩ := h
  exact ⟨x, y, v, h1, h2.dkv, h3⟩
theorem WkO.keep {w w' : World} {g : Nat} {d : Dk} {ways : List Dk} (hb : Bel w w') (h : WkO w g d ways) : WkO w' g d ways := by
  obtain ⟨x, y, v, h1, h2, h3⟩ := h
  exact ⟨x, y, v, h1.keep hb, h2.keep hb, h3.keep hb⟩
theorem WkV.keep {w w' : World} {g : Nat} {d : Dk} {ways : List Dk} (hb : Bel w w') (h : WkV w g d ways) : WkV w' g d ways := by
  obtain ⟨x, y, v, h1, h2, h3⟩ := h
  exact ⟨x, y, v, h1.keep hb, h2.keep hb, h3.keep hb⟩
theorem WkV.lt {w : World} {g : Nat} {d : Dk} {ways : List Dk} (h : WkV w g d ways) : g < w.heap.size := by
  obtain ⟨x, y, v, h1, _, _⟩ := h
  exact h1.lt
theorem wkWrite_any (g : Nat) (d : Dk) (n : Int) (s : ByteArray) (ways : List Dk) (w : World) (h : WkV w g d ways) (hk : d.kept.length ≤ 600) (hw : d.written.length ≤ 599) (hn : ways.length ≤ 4000) :
    Calls Try.prog 51 #[.pointer (some ⟨g, 0, none⟩), .int .i64 n, .string s] w fun r w' => (∃ u, r = .returned u) ∧ WkO w' g (d.put n s) (ways ++ [d.put n s]) ∧ Below g w w' ∧ Stay w g w' := by
  obtain ⟨x, y, v, h1, h2, h3⟩ := h
  exact lwrite_any g d n s x y v ways w h1 h2 h3 hk hw hn
theorem wkFlush_any (g : Nat) (d : Dk) (ways : List Dk) (w : World) (h : WkV w g d ways) (hz : d.err = 0) (hn : ways.length ≤ 4000) :
    Calls Try.prog 53 #[.pointer (some ⟨g, 0, none⟩)] w fun r w' => (∃ u, r = .returned u) ∧ WkO w' g d.flushed (ways ++ [d.flushed]) ∧ Below g w w' ∧ Stay w g w' := by
  obtain ⟨x, y, v, h1, h2, h3⟩ := h
  exact lflush_any g d x y v ways w h1 h2 h3 hz hn

set_option maxRecDepth 20000 in
set_option maxHeartbeats 4000000 in
theorem append_any (d : Dk) (val lv : Value) (l : List Ev) (w : World) (h : DkV w d val) (ho : d.ok) (hl : Sl evR w lv l) (hll : l.length ≤ 140737488351232) :
    Calls Try.prog 22 #[val, lv] w fun r w' => AppIs w d l r w' ∧ Bel w w' := by
  have HCK := Lib.hid (fun val W h => check_any d val W h ho)
  have HCF := Lib.hid (fun W (hb : Bel w W) => containsFunc_any 48 rfl lv l W (hl.keep hb) hll)
  have HLD := Lib.hid (fun (hz : d.err = 0) W (v : Value) (hv : Sl strR W v d.kept) => load_any d.kept v W hv (Dk.err_zero hz).2.1 (Dk.err_zero hz).1)
  have HE : Hid ((if d.err = 0 then if 60 < l.length then (2 : Int) else if l.all evSmall = true then match loadOf d.kept with
    | none => 4
    | some p => if d.kept.length < p.2.1 + 1 + l.length then 8 else 0
  else 3 else d.err) = appErr d l) := Lib.hid rfl
  have HH := Lib.hid h
  have HL := Lib.hid hl
  have hr : Try.f22.results = #[.cell 4 25, .tmp 5, .tmp 6] := rfl
  obtain ⟨A1, c1, A2, c2, rfl, h1, -⟩ := h
  have HK1 := Lib.hid h1
  obtain ⟨A3, c3, rfl, -, -, -⟩ := hl
  clear h1 ho
  go_enter Try.func22, Try.ntmps22
  have hW0 : Bel w ((w.alloc (.cells #[.slice A1 d.kept.length c1, .slice A2 d.written.length c2] 25)).alloc (.cells #[.slice none 0 0, .slice none 0 0] 25)) := ((Bel.rfl_ w).al _).al _
  have hQ := (Blk.new w 25 #[.slice A1 d.kept.length c1, .slice A2 d.written.length c2]).keep ((Bel.rfl_ _).al (.cells #[.slice none 0 0, .slice none 0 0] 25))
  have hR := Blk.new (w.alloc (.cells #[.slice A1 d.kept.length c1, .slice A2 d.written.length c2] 25)) 25 #[.slice none 0 0, .slice none 0 0]
  rw [World.size_alloc] at hR
  have HB := Lib.hid hW0
  have HQ := Lib.hid hQ
  have HR := Lib.hid hR
  have HSZ : Hid (w.heap.size + 2 ≤ ((w.alloc (.cells #[.slice A1 d.kept.length c1, .slice A2 d.written.length c2] 25)).alloc (.cells #[.slice none 0 0, .slice none 0 0] 25)).heap.size) := Lib.hid (by simp)
  clear hW0 hQ hR
  go_upto_region 1 with fail
  generalize (w.alloc (.cells #[.slice A1 d.kept.length c1, .slice A2 d.written.length c2] 25)).alloc (.cells #[.slice none 0 0, .slice none 0 0] 25) = W0 at *
  have q0 := HQ.out.cell (i := 0) (v := .slice A1 d.kept.length c1) rfl
  have q1 := HQ.out.cell (i := 1) (v := .slice A2 d.written.length c2) rfl
  go_wp2_with fail
  refine (HCK.out _ _ (HH.out.keep HB.out)).mono ?_
  rintro r w1 ⟨rfl, hb1⟩
  replace HB := Lib.hid (HB.out.tr hb1)
  replace HQ := Lib.hid (HQ.out.keep hb1)
  replace HR := Lib.hid (HR.out.keep hb1)
  replace HSZ := Lib.hid (Nat.le_trans HSZ.out (Lib.hid hb1).out.size)
  clear hb1 q0 q1 HCK
  have r0 := HR.out.cell (i := 0) (v := .slice none 0 0) rfl
  have r1 := HR.out.cell (i := 1) (v := .slice none 0 0) rfl
  have rf0 := HR.out.frozen 0
  have rf1 := HR.out.frozen 1
  by_cases hz : d.err = 0
  rotate_left
  · have hne : d.err ≠ 0 := hz
    have HNZ := Lib.hid hz
    have hbe : (d.err != 0) = true := by simpa using hz
    generalize hER : d.err = ER at *
    have HER := Lib.hid hER
    clear hz hER
    as_aux_lemma =>
      go_wp2
      have hs5 := two_set (a := .slice none 0 0) (b := .slice none 0 0) HR.out
      have z0 := hs5.cell (i := 0) (v := .slice none 0 0) rfl
      have z1 := hs5.cell (i := 1) (v := .slice none 0 0) rfl
      have hbl := (HB.out.setCell (p := ⟨w.heap.size + 1, 0, none⟩) (by dsimp only; omega) (.slice none 0 0)).setCell (p := ⟨w.heap.size + 1, 1, none⟩) (by dsimp only; omega) (.slice none 0 0)
      have hAE : Hid (appErr d l = ER) := Lib.hid (by rw [← HE.out]; rw [if_neg HNZ.out])
      exact bodyPost_ret (v := .tuple #[.agg #[.slice none 0 0, .slice none 0 0], .slice none 0 0, .int .i64 ER]) (by simp [results, z0, z1, go_sem]) rfl ⟨⟨_, _, by rw [hAE.out]; rfl, fun _ => ⟨rfl, rfl⟩, fun h0 => absurd (hAE.out.symm.trans h0) (by first | decide | exact hne)⟩, hbl⟩
  rw [hz]
  have HZ := Lib.hid hz
  replace HLD := Lib.hid (HLD.out hz)
  clear hz
  by_cases h60 : 60 < l.length
  · have d60 : decide ((60 : Int) < l.length) = true := decide_eq_true (by omega)
    as_aux_lemma =>
      go_wp2
      have hs5 := two_set (a := .slice none 0 0) (b := .slice none 0 0) HR.out
      have z0 := hs5.cell (i := 0) (v := .slice none 0 0) rfl
      have z1 := hs5.cell (i := 1) (v := .slice none 0 0) rfl
      have hbl := (HB.out.setCell (p := ⟨w.heap.size + 1, 0, none⟩) (by dsimp only; omega) (.slice none 0 0)).setCell (p := ⟨w.heap.size + 1, 1, none⟩) (by dsimp only; omega) (.slice none 0 0)
      have hAE : Hid (appErr d l = 2) := Lib.hid (by rw [← HE.out]; rw [if_pos HZ.out, if_pos h60])
      exact bodyPost_ret (v := .tuple #[.agg #[.slice none 0 0, .slice none 0 0], .slice none 0 0, .int .i64 2]) (by simp [results, z0, z1, go_sem]) rfl ⟨⟨_, _, by rw [hAE.out]; rfl, fun _ => ⟨rfl, rfl⟩, fun h0 => absurd (hAE.out.symm.trans h0) (by first | decide | exact hne)⟩, hbl⟩
  have d60 : decide ((60 : Int) < l.length) = false := decide_eq_false (by omega)
  go_wp2_with fail
  refine (HCF.out _ HB.out).mono ?_
  rintro r w2 ⟨rfl, hb2⟩
  replace HB := Lib.hid (HB.out.tr hb2)
  replace HQ := Lib.hid (HQ.out.keep hb2)
  replace HR := Lib.hid (HR.out.keep hb2)
  replace HSZ := Lib.hid (Nat.le_trans HSZ.out (Lib.hid hb2).out.size)
  clear hb2 r0 r1 rf0 rf1 HCF
  have r0 := HR.out.cell (i := 0) (v := .slice none 0 0) rfl
  have r1 := HR.out.cell (i := 1) (v := .slice none 0 0) rfl
  have rf0 := HR.out.frozen 0
  have rf1 := HR.out.frozen 1
  cases hsm : l.all evSmall with
  | false =>
    have HSM := Lib.hid hsm
    clear hsm
    simp only [Bool.not_false]
    as_aux_lemma =>
      go_wp2
      have hs5 := two_set (a := .slice none 0 0) (b := .slice none 0 0) HR.out
      have z0 := hs5.cell (i := 0) (v := .slice none 0 0) rfl
      have z1 := hs5.cell (i := 1) (v := .slice none 0 0) rfl
      have hbl := (HB.out.setCell (p := ⟨w.heap.size + 1, 0, none⟩) (by dsimp only; omega) (.slice none 0 0)).setCell (p := ⟨w.heap.size + 1, 1, none⟩) (by dsimp only; omega) (.slice none 0 0)
      have hAE : Hid (appErr d l = 3) := Lib.hid (by rw [← HE.out]; rw [if_pos HZ.out, if_neg h60, HSM.out, if_neg (by decide)])
      exact bodyPost_ret (v := .tuple #[.agg #[.slice none 0 0, .slice none 0 0], .slice none 0 0, .int .i64 3]) (by simp [results, z0, z1, go_sem]) rfl ⟨⟨_, _, by rw [hAE.out]; rfl, fun _ => ⟨rfl, rfl⟩, fun h0 => absurd (hAE.out.symm.trans h0) (by first | decide | exact hne)⟩, hbl⟩
  | true =>
  have HSM := Lib.hid hsm
  clear hsm
  simp only [Bool.not_true]
  have q0 := HQ.out.cell (i := 0) (v := .slice A1 d.kept.length c1) rfl
  have q1 := HQ.out.cell (i := 1) (v := .slice A2 d.written.length c2) rfl
  go_wp2_with fail
  refine (HLD.out _ _ (HK1.out.keep HB.out)).mono ?_
  rintro r w3 ⟨hli, hb3⟩
  have HFR := Lib.hid (Lib.hid hb3).out.size
  replace HB := Lib.hid (HB.out.tr hb3)
  replace HQ := Lib.hid (HQ.out.keep hb3)
  replace HR := Lib.hid (HR.out.keep hb3)
  replace HSZ := Lib.hid (Nat.le_trans HSZ.out (Lib.hid hb3).out.size)
  clear hb3 q0 q1 r0 r1 rf0 rf1 HLD
  have r0 := HR.out.cell (i := 0) (v := .slice none 0 0) rfl
  have r1 := HR.out.cell (i := 1) (v := .slice none 0 0) rfl
  have rf0 := HR.out.frozen 0
  have rf1 := HR.out.frozen 1
  unfold LoadIs at hli
  cases hlo : loadOf d.kept with
  | none =>
    rw [hlo] at hli
    have hli : r = .returned (.tuple #[.pointer none, .bool false]) := hli
    subst hli
    have HLO := Lib.hid hlo
    clear hlo
    as_aux_lemma =>
      go_wp2
      have hs5 := two_set (a := .slice none 0 0) (b := .slice none 0 0) HR.out
      have z0 := hs5.cell (i := 0) (v := .slice none 0 0) rfl
      have z1 := hs5.cell (i := 1) (v := .slice none 0 0) rfl
      have hbl := (HB.out.setCell (p := ⟨w.heap.size + 1, 0, none⟩) (by dsimp only; omega) (.slice none 0 0)).setCell (p := ⟨w.heap.size + 1, 1, none⟩) (by dsimp only; omega) (.slice none 0 0)
      have hAE : Hid (appErr d l = 4) := Lib.hid (by rw [← HE.out]; rw [if_pos HZ.out, if_neg h60, HSM.out, if_pos rfl, HLO.out])
      exact bodyPost_ret (v := .tuple #[.agg #[.slice none 0 0, .slice none 0 0], .slice none 0 0, .int .i64 4]) (by simp [results, z0, z1, go_sem]) rfl ⟨⟨_, _, by rw [hAE.out]; rfl, fun _ => ⟨rfl, rfl⟩, fun h0 => absurd (hAE.out.symm.trans h0) (by first | decide | exact hne)⟩, hbl⟩
  | some p =>
  obtain ⟨t, u, bs⟩ := p
  rw [hlo] at hli
  obtain ⟨bv, rfl, hS, -⟩ : ∃ v, r = .returned (.tuple #[.pointer (some ⟨w2.heap.size, 0, none⟩), .bool true]) ∧ Blk w3 w2.heap.size 87 #[.int .i64 t, .int .i64 u, v] ∧ BsO w3 (w2.heap.size + 1) v bs := hli
  have HS := Lib.hid hS
  have HLO := Lib.hid hlo
  have hsl := hS.lt
  have s0 := hS.cell (i := 0) (v := .int .i64 t) rfl
  have s1 := hS.cell (i := 1) (v := .int .i64 u) rfl
  obtain ⟨ht0, ht1, hu2, hul⟩ : 0 ≤ t ∧ t ≤ 2147483647 ∧ 2 ≤ u ∧ u ≤ d.kept.length := loadOf_in hlo
  have hk6 := (Dk.err_small HZ.out).1
  generalize w2.heap.size = S at *
  have q0 := HQ.out.cell (i := 0) (v := .slice A1 d.kept.length c1) rfl
  clear hlo hS
  by_cases hto : d.kept.length < u + 1 + l.length
  · have dto : decide ((d.kept.length : Int) < u + 1 + l.length) = true := decide_eq_true (by omega)
    as_aux_lemma =>
      go_wp2
      have hs5 := two_set (a := .slice none 0 0) (b := .slice none 0 0) HR.out
      have z0 := hs5.cell (i := 0) (v := .slice none 0 0) rfl
      have z1 := hs5.cell (i := 1) (v := .slice none 0 0) rfl
      have hbl := (HB.out.setCell (p := ⟨w.heap.size + 1, 0, none⟩) (by dsimp only; omega) (.slice none 0 0)).setCell (p := ⟨w.heap.size + 1, 1, none⟩) (by dsimp only; omega) (.slice none 0 0)
      have hAE : Hid (appErr d l = 8) := Lib.hid (by rw [← HE.out]; rw [if_pos HZ.out, if_neg h60, HSM.out, if_pos rfl, HLO.out]; simp only []; rw [if_pos hto])
      exact bodyPost_ret (v := .tuple #[.agg #[.slice none 0 0, .slice none 0 0], .slice none 0 0, .int .i64 8]) (by simp [results, z0, z1, go_sem]) rfl ⟨⟨_, _, by rw [hAE.out]; rfl, fun _ => ⟨rfl, rfl⟩, fun h0 => absurd (hAE.out.symm.trans h0) (by first | decide | exact hne)⟩, hbl⟩
  have dto : decide ((d.kept.length : Int) < u + 1 + l.length) = false := decide_eq_false (by omega)
  have hAE : Hid (appErr d l = 0) := Lib.hid (by rw [← HE.out, if_pos HZ.out, if_neg h60, HSM.out, if_pos rfl, HLO.out]; simp only []; rw [if_neg hto])
  clear r0 r1 rf0 rf1
  have HWK : Hid (WkV (w3.alloc (.cells #[.slice A1 d.kept.length c1, .slice none 0 0, .slice none 0 0] 90)) w3.heap.size ⟨d.kept, []⟩ []) := Lib.hid ⟨_, _, _, Blk.new _ _ _, ⟨A1, c1, none, 0, rfl, HK1.out.keep (HB.out.al _), Sl.nil_ _ _⟩, WayO.nil _ _⟩
  have HX := Lib.hid ((Bel.rfl_ w3).al (.cells #[.slice A1 d.kept.length c1, .slice none 0 0, .slice none 0 0] 90))
  have HS0F := Lib.hid (fun W (hb : Bel w3 W) => hb.cell s0)
  have HS1F := Lib.hid (fun W (hb : Bel w3 W) => hb.cell s1)
  have HSEC := Lib.hid (fun b (x : Int) W (h : Blk W b 3 #[.int .i64 x]) => lsector_any b 1002 [x] (by simp) W h)
  have HSEC6 := Lib.hid (fun b (e : Ev) W (h : Blk W b 3 #[.int .i64 e.kind, .int .i64 e.frame, .int .i64 e.at_, .int .i64 e.var, .int .i64 e.index, .int .i64 e.value]) => lsector_any b 1003 [e.kind, e.frame, e.at_, e.var, e.index, e.value] (by simp) W h)
  have HSEC2 := Lib.hid (fun b (x y : Int) W (h : Blk W b 3 #[.int .i64 x, .int .i64 y]) => lsector_any b 1001 [x, y] (by simp) W h)
  have HWR := Lib.hid (fun g d n s ways W h h1 h2 h3 => wkWrite_any g d n s ways W h h1 h2 h3)
  have HWF := Lib.hid (fun g d ways W h h1 h2 => wkFlush_any g d ways W h h1 h2)
  have HK6 := Lib.hid hk6
  go_upto_region 15 with fail
  clear s0 s1 q0 hk6 HQ
  generalize w3.alloc (.cells #[.slice A1 d.kept.length c1, .slice none 0 0, .slice none 0 0] 90) = W4 at *
  have s1 := HS1F.out _ HX.out
  have hbX := HX
  go_wp2_with fail
  go_region_held3 (fun w' => w'.cell? ⟨S, 1, none⟩ = some (.int .i64 u))
    (first | exact HS1F.out _ (by repeat (first | exact hbX.out | apply Bel.dr | apply Bel.al)))
    (first
      | (go_at_call 52; refine (HSEC.out _ (l.length : Int) _ ?_).mono ?_; (first | exact Blk.new _ _ _ | exact (Blk.new _ _ _).keep ((Bel.rfl_ _).dr)); rintro r w5 ⟨rfl, hb5⟩; have hb45 : Bel W4 w5 := Bel.tr (by repeat (first | exact Bel.rfl_ _ | apply Bel.dr | apply Bel.al)) hb5; have hbX := Lib.hid (HX.out.tr hb45); have HWK5 := Lib.hid (HWK.out.keep hb45); clear hb5 hb45)
      | (go_at_call 51; refine (HWR.out _ _ _ _ _ _ (HWK5.out.keep (by repeat (first | exact Bel.rfl_ _ | apply Bel.dr))) HK6.out (by simp) (by simp)).mono ?_; rintro r w6 ⟨⟨ru, rfl⟩, hw6, hb6, -⟩; have hbX := Lib.hid (Below.trans (by repeat (first | exact hbX.out | apply Bel.dr)) hb6); have HWK6 := Lib.hid hw6; clear hw6 hb6))
  have HW1 : Hid (WkO w6 w3.heap.size ⟨d.kept, (bodyW u l).take (0 + 1)⟩ (prefW d.kept (bodyW u l) (0 + 1))) := Lib.hid (by have := HWK6.out; exact this)
  have HLC : Hid (∀ k e, l[k]? = some e → ∃ b o, A3 = some ⟨b, o, none⟩ ∧ EvAt w b (o + k * 6) e) := Lib.hid (fun k e he => by
    obtain ⟨A, c, heq, _, _, hA⟩ := HL.out
    simp only [Value.slice.injEq, true_and] at heq
    obtain ⟨rfl, rfl⟩ := heq
    obtain ⟨b, o, h1, h2⟩ := hA (by have := (List.getElem?_eq_some_iff.1 he).1; omega)
    exact ⟨b, o, h1, evR.cells h2 he⟩)
  clear HWK6 HWK HX s1
  have HX := hbX
  clear hbX
  go_wp2_with fail
  go_loopw [69] (fun x wr => ∃ k : Nat, k ≤ l.length ∧ x = .int .i64 k ∧ Hid (WkO wr w3.heap.size ⟨d.kept, (bodyW u l).take (k + 1)⟩ (prefW d.kept (bodyW u l) (k + 1))) ∧ Hid (Bel w3 wr)) (fun x _ => l.length - (intOf x).toNat)
  case atStart => exact ⟨0, by omega, rfl, HW1, HX⟩
  case round =>
    clear HX HW1
    obtain ⟨k, hk, rfl, HWK, HX⟩ := hrel
    by_cases hlt : k < l.length
    · have hd : decide ((k : Int) < l.length) = true := decide_eq_true (by omega)
      obtain ⟨e, he⟩ : ∃ e, l[k]? = some e := ⟨_, List.getElem?_eq_getElem hlt⟩
      obtain ⟨b3, o3, rfl, hev⟩ := HLC.out k e he
      obtain ⟨x0, x1, x2, x3, x4, x5⟩ := EvAt.keepB (HB.out.tr HX.out) hev
      have HBT := Lib.hid (bodyW_take (u := u) he)
      have HT := Lib.hid (Blk.new wr 81 #[.int .i64 e.kind, .int .i64 e.frame, .int .i64 e.at_, .int .i64 e.var, .int .i64 e.index, .int .i64 e.value])
      have hal := (Bel.rfl_ wr).al (.cells #[.int .i64 e.kind, .int .i64 e.frame, .int .i64 e.at_, .int .i64 e.var, .int .i64 e.index, .int .i64 e.value] 81)
      have HGL := Lib.hid HWK.out.wkv.lt
      replace HX := Lib.hid (HX.out.tr hal)
      replace HWK := Lib.hid (HWK.out.keep hal)
      clear he hev hal dto d60
      go_upto_region 19 with fail
      clear x0 x1 x2 x3 x4 x5
      generalize wr.alloc (.cells #[.int .i64 e.kind, .int .i64 e.frame, .int .i64 e.at_, .int .i64 e.var, .int .i64 e.index, .int .i64 e.value] 81) = W5 at *
      have HTG : Hid (wr.heap.size ≠ w3.heap.size) := Lib.hid (by have := HGL.out; omega)
      generalize wr.heap.size = T at *
      have s1 := HS1F.out _ HX.out
      have x0 : W5.cell? ⟨T, 0, none⟩ = some (.int .i64 e.kind) := HT.out.cell rfl
      have x1 : W5.cell? ⟨T, 1, none⟩ = some (.int .i64 e.frame) := HT.out.cell rfl
      have x2 : W5.cell? ⟨T, 2, none⟩ = some (.int .i64 e.at_) := HT.out.cell rfl
      have x3 : W5.cell? ⟨T, 3, none⟩ = some (.int .i64 e.var) := HT.out.cell rfl
      have x4 : W5.cell? ⟨T, 4, none⟩ = some (.int .i64 e.index) := HT.out.cell rfl
      have x5 : W5.cell? ⟨T, 5, none⟩ = some (.int .i64 e.value) := HT.out.cell rfl
      have HL1 : Hid ((⟨d.kept, (bodyW u l).take (k + 1)⟩ : Dk).written.length ≤ 599) := Lib.hid (by show ((bodyW u l).take (k + 1)).length ≤ 599; rw [List.length_take]; omega)
      have HL2 : Hid ((prefW d.kept (bodyW u l) (k + 1)).length ≤ 4000) := Lib.hid (by rw [prefW_len]; omega)
      go_wp2_with fail
      have HTF : Hid (∀ W, Blk W T 81 #[.int .i64 e.kind, .int .i64 e.frame, .int .i64 e.at_, .int .i64 e.var, .int .i64 e.index, .int .i64 e.value] → W.cell? ⟨T, 0, none⟩ = some (.int .i64 e.kind) ∧ W.cell? ⟨T, 1, none⟩ = some (.int .i64 e.frame) ∧ W.cell? ⟨T, 2, none⟩ = some (.int .i64 e.at_) ∧ W.cell? ⟨T, 3, none⟩ = some (.int .i64 e.var) ∧ W.cell? ⟨T, 4, none⟩ = some (.int .i64 e.index) ∧ W.cell? ⟨T, 5, none⟩ = some (.int .i64 e.value)) := Lib.hid (fun W h => ⟨h.cell rfl, h.cell rfl, h.cell rfl, h.cell rfl, h.cell rfl, h.cell rfl⟩)
      have hbX := HX
      have HTc := HT
      go_region_held3 (fun w' => w'.cell? ⟨S, 1, none⟩ = some (.int .i64 u) ∧ w'.cell? ⟨T, 0, none⟩ = some (.int .i64 e.kind) ∧ w'.cell? ⟨T, 1, none⟩ = some (.int .i64 e.frame) ∧ w'.cell? ⟨T, 2, none⟩ = some (.int .i64 e.at_) ∧ w'.cell? ⟨T, 3, none⟩ = some (.int .i64 e.var) ∧ w'.cell? ⟨T, 4, none⟩ = some (.int .i64 e.index) ∧ w'.cell? ⟨T, 5, none⟩ = some (.int .i64 e.value))
        (first | exact ⟨HS1F.out _ (by repeat (first | exact hbX.out | apply Bel.dr | apply Bel.al)), HTF.out _ (HTc.out.keep (by repeat (first | exact Bel.rfl_ _ | apply Bel.dr | apply Bel.al)))⟩)
        (first
          | (go_at_call 52; refine (HSEC6.out _ e _ ?_).mono ?_; (first | exact Blk.new _ _ _ | exact (Blk.new _ _ _).keep ((Bel.rfl_ _).dr)); rintro r w7 ⟨rfl, hb7⟩; have hb57 : Bel W5 w7 := Bel.tr (by repeat (first | exact Bel.rfl_ _ | apply Bel.dr | apply Bel.al)) hb7; have hbX := Lib.hid (HX.out.tr hb57); have HTc := Lib.hid (HT.out.keep hb57); have HWK7 := Lib.hid (HWK.out.keep hb57); clear hb7 hb57)
          | (go_at_call 51; refine (HWR.out _ _ _ _ _ _ (HWK7.out.wkv.keep (by repeat (first | exact Bel.rfl_ _ | apply Bel.dr))) HK6.out HL1.out HL2.out).mono ?_; rintro r w8 ⟨⟨ru, rfl⟩, hw8, hb8, hs8⟩; have hbX := Lib.hid (Below.trans (by repeat (first | exact hbX.out | apply Bel.dr)) hb8); have HTc := Lib.hid (hs8 T _ _ (HTc.out.keep (by repeat (first | exact Bel.rfl_ _ | apply Bel.dr))) HTG.out (by decide)); have HWK8 := Lib.hid hw8; clear hw8 hb8 hs8))
      have HP : Hid ((⟨d.kept, (bodyW u l).take (k + 1)⟩ : Dk).put (IntKind.i64.wrap (IntKind.i64.wrap ((u : Int) + 1) + k)) (secS 1003 [e.kind, e.frame, e.at_, e.var, e.index, e.value]) = ⟨d.kept, (bodyW u l).take (k + 1 + 1)⟩) := Lib.hid (by
        rw [HBT.out, show IntKind.i64.wrap (IntKind.i64.wrap ((u : Int) + 1) + k) = ((u + 1 + k : Nat) : Int) by have := HK6.out; rw [IntKind.wrap_i64, IntKind.wrap_i64]; omega]
        rfl)
      rw [HP.out, ← prefW_succ] at HWK8
      go_wp2
      exact ⟨⟨k + 1, by omega, by go_num, HWK8, hbX⟩, by simp [intOf]; omega⟩
    · obtain rfl : k = l.length := by omega
      have hbl : (bodyW u l).length = l.length + 1 := by rw [bodyW, List.length_cons, evW_len]
      rw [← hbl, List.take_length, hbl] at HWK
      have HE1 := Lib.hid (bodyD_err HZ.out (by omega) (by omega) (u := u) (l := l))
      have HE2 := Lib.hid (appH_err HZ.out (by omega) (by omega) hu2 (t := t) (l := l))
      obtain ⟨hf1, hf2, hf3⟩ := Dk.flushed_of HE1.out
      have HFK : Hid ((bodyD d.kept u l).flushed.kept.length ≤ 600) := Lib.hid (by rw [hf2]; exact HK6.out)
      have HFW : Hid ((bodyD d.kept u l).flushed.written.length ≤ 599) := Lib.hid (by rw [hf3]; simp)
      have HPL : Hid ((prefW d.kept (bodyW u l) (l.length + 1)).length ≤ 61) := Lib.hid (by rw [prefW_len]; omega)
      clear hbl hf1 hf2 hf3
      go_wp2_with fail
      refine (HWF.out _ (bodyD d.kept u l) _ _ HWK.out.wkv HE1.out (by have := HPL.out; omega)).mono ?_
      rintro r w5 ⟨⟨ru, rfl⟩, hw5, hb5, -⟩
      replace HWK := Lib.hid hw5
      replace HX : Hid (Bel w3 w5) := Lib.hid (HX.out.trans hb5)
      clear hw5 hb5
      have s0 := HS0F.out _ HX.out
      have hwt : IntKind.i64.wrap (t + 1) = t + 1 := by rw [IntKind.wrap_i64]; omega
      have hmod : Int.tmod (t + 1) 2 = (t + 1) % 2 := Int.tmod_eq_emod_of_nonneg (by omega)
      have hbX := HX
      go_wp2_with fail
      go_region_held3 (fun w' => w'.cell? ⟨S, 0, none⟩ = some (.int .i64 t))
        (first | exact HS0F.out _ (by repeat (first | exact hbX.out | apply Bel.dr | apply Bel.al)))
        (first
          | (go_at_call 52; refine (HSEC2.out _ (t + 1) ((u : Int) + 1 + l.length) _ ?_).mono ?_; (first | exact Blk.new _ _ _ | exact (Blk.new _ _ _).keep ((Bel.rfl_ _).dr)); rintro r w6 ⟨rfl, hb6⟩; have hb56 : Bel w5 w6 := Bel.tr (by repeat (first | exact Bel.rfl_ _ | apply Bel.dr | apply Bel.al)) hb6; have hbX := Lib.hid (HX.out.tr hb56); have HWK6 := Lib.hid (HWK.out.keep hb56); clear hb6 hb56)
          | (go_at_call 51; refine (HWR.out _ _ _ _ _ _ (HWK6.out.wkv.keep (by repeat (first | exact Bel.rfl_ _ | apply Bel.dr))) HFK.out HFW.out (by have := HPL.out; rw [List.length_append, List.length_singleton]; omega)).mono ?_; rintro r w7 ⟨⟨ru, rfl⟩, hw7, hb7, -⟩; have hbX := Lib.hid (Below.trans (by repeat (first | exact hbX.out | apply Bel.dr)) hb7); have HWK7 := Lib.hid hw7; clear hw7 hb7))
      clear s0
      replace HX : Hid (Bel w3 w7) := hbX
      have hhd : Hid (secS 1001 [t + 1, (u : Int) + 1 + l.length] = headS t u l) := Lib.hid (by
        rw [headS, show ((u : Int) + 1 + l.length) = ((u + 1 + l.length : Nat) : Int) by omega])
      rw [hhd.out] at HWK7
      have HWK7 : Hid (WkO w7 w3.heap.size (appH d.kept t u l) ((prefW d.kept (bodyW u l) (l.length + 1) ++ [(bodyD d.kept u l).flushed]) ++ [appH d.kept t u l])) := HWK7
      go_wp2_with fail
      refine (HWF.out _ _ _ _ HWK7.out.wkv HE2.out (by have := HPL.out; rw [List.length_append, List.length_append, List.length_singleton, List.length_singleton]; omega)).mono ?_
      rintro r w8 ⟨⟨ru, rfl⟩, hw8, hb8, -⟩
      replace HX : Hid (Bel w3 w8) := Lib.hid (HX.out.trans hb8)
      have HWK8 : Hid (WkO w8 w3.heap.size (appF d.kept t u l) (appWays d.kept t u l)) := Lib.hid hw8
      clear hw8 hb8 HWK7 HWK
      obtain ⟨hg1, hg2, hg3⟩ := Dk.flushed_of HE2.out
      have HOW := Lib.hid (fun W v (h : DkV W (appF d.kept t u l) v) => ownO_any _ v W h (by show (appH d.kept t u l).flushed.kept.length ≤ 600; rw [hg2]; exact (Dk.err_small HE2.out).1) (by show (appH d.kept t u l).flushed.written.length ≤ 600; rw [hg3]; simp))
      clear hg1 hg2 hg3
      generalize hFD : appF d.kept t u l = FD at *
      generalize hWY : appWays d.kept t u l = WY at *
      have HFD := Lib.hid hFD
      have HWY := Lib.hid hWY
      clear hFD hWY
      obtain ⟨y0, y1, wv, hBk, hDo, hWo⟩ := HWK8.out
      obtain ⟨A5, c5, A6, c6, he5, -, -⟩ := hDo.lit
      simp only [Value.agg.injEq, Array.mk.injEq, List.cons.injEq, and_true] at he5
      obtain ⟨rfl, rfl⟩ := he5
      have HG := Lib.hid hBk
      have HDV := Lib.hid (fun W (hb : Bel w8 W) => hDo.dkv.keep hb)
      have HWO := Lib.hid hWo
      have g0 := hBk.cell (i := 0) (v := .slice A5 FD.kept.length c5) rfl
      have g1 := hBk.cell (i := 1) (v := .slice A6 FD.written.length c6) rfl
      have g2 := hBk.cell (i := 2) (v := wv) rfl
      have HRG : Hid (w3.heap.size ≠ w.heap.size + 1) := Lib.hid (by have := HSZ.out; omega)
      have HGF : Hid (∀ W, Blk W w3.heap.size 90 #[.slice A5 FD.kept.length c5, .slice A6 FD.written.length c6, wv] → W.cell? ⟨w3.heap.size, 0, none⟩ = some (.slice A5 FD.kept.length c5) ∧ W.cell? ⟨w3.heap.size, 1, none⟩ = some (.slice A6 FD.written.length c6) ∧ W.cell? ⟨w3.heap.size, 2, none⟩ = some wv) := Lib.hid (fun W h => ⟨h.cell rfl, h.cell rfl, h.cell rfl⟩)
      clear hBk hDo hWo
      have hbY := Lib.hid (Bel.rfl_ w8)
      go_wp2_with fail
      go_region_held3 (fun w' => w'.cell? ⟨w3.heap.size, 0, none⟩ = some (.slice A5 FD.kept.length c5) ∧ w'.cell? ⟨w3.heap.size, 1, none⟩ = some (.slice A6 FD.written.length c6) ∧ w'.cell? ⟨w3.heap.size, 2, none⟩ = some wv)
        (first
          | exact HGF.out _ (HG.out.keep (by first | with_reducible exact hbY.out | with_reducible exact hbY.out.dr))
          | exact HGF.out _ (((HG.out.keep hbY.out).far2 HRG.out _ _).far2 HRG.out _ _))
        (first
          | (go_at_call 54; refine (HOW.out _ _ (HDV.out _ (by repeat (first | exact Bel.rfl_ _ | apply Bel.dr)))).mono ?_; rintro r w9 ⟨v9, rfl, hd9, hb9⟩; have hb89 : Bel w8 w9 := Bel.tr (by repeat (first | exact Bel.rfl_ _ | apply Bel.dr | apply Bel.al)) hb9; have hbY := Lib.hid hb89; have HD9 := Lib.hid hd9; obtain ⟨A7, c7, A8, c8, rfl, -, -⟩ := hd9.lit; have hR9 := HR.out.keep (HX.out.tr hb89); have r0 := hR9.cell (i := 0) (v := .slice none 0 0) rfl; have r1 := hR9.cell (i := 1) (v := .slice none 0 0) rfl; have rf0 := hR9.frozen 0; have rf1 := hR9.frozen 1; have HR9 := Lib.hid hR9; clear hd9 hb9 hb89 hR9))
      go_wp2
      have hs5 := two_set (a := .slice A7 FD.kept.length c7) (b := .slice A8 FD.written.length c8) HR9.out
      have z0 := hs5.cell (i := 0) (v := .slice A7 FD.kept.length c7) rfl
      have z1 := hs5.cell (i := 1) (v := .slice A8 FD.written.length c8) rfl
      have hsz8 := HX.out.size
      have hsz2 := HSZ.out
      have hD := (((HD9.out.base (B' := w.heap.size + 2) (show w.heap.size + 2 ≤ w8.heap.size by omega)).farR (R := w.heap.size + 1) (by omega) 0 (.slice A7 FD.kept.length c7)).farR (R := w.heap.size + 1) (by omega) 1 (.slice A8 FD.written.length c8)).base (B' := w.heap.size) (by omega)
      have hW := (((HWO.out.keep hbY.out).farR (R := w.heap.size + 1) (by omega) 0 (.slice A7 FD.kept.length c7)).farR (R := w.heap.size + 1) (by omega) 1 (.slice A8 FD.written.length c8)).base (B' := w.heap.size) (by omega)
      have hbl := ((HB.out.tr (HX.out.tr hbY.out)).setCell (p := ⟨w.heap.size + 1, 0, none⟩) (by dsimp only; omega) (.slice A7 FD.kept.length c7)).setCell (p := ⟨w.heap.size + 1, 1, none⟩) (by dsimp only; omega) (.slice A8 FD.written.length c8)
      refine bodyPost_ret (v := .tuple #[.agg #[.slice A7 FD.kept.length c7, .slice A8 FD.written.length c8], wv, .int .i64 0]) (by simp [results, z0, z1, go_sem]) rfl ⟨⟨_, _, by rw [hAE.out], fun h => absurd hAE.out h, fun _ t' u' bs' h' => ?_⟩, hbl⟩
      have he := HLO.out.symm.trans h'
      simp only [Option.some.injEq, Prod.mk.injEq] at he
      obtain ⟨rfl, rfl, -⟩ := he
      rw [HFD.out, HWY.out]
      exact ⟨hD, hW⟩

end Go.Proofs.Ytkojeofegoljpaa
