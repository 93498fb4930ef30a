/- The program's tree.Parse: walked. The program's tree.Parse: it is the document's. Texts that are put together by the library: blanks, pieces, pieces with commas. The address of a list's element, as a law. Each lemma states its own conditions. -/
import Derived.Test.YtmfjlcpjemccmaaGreatDoorTts34
import Derived.Test.YtmfjlcpjemccmaaGreatDoorTts35
import Derived.Test.YtmfjlcpjemccmaaGreatDoorTts44
import Derived.Test.YtmfjlcpjemccmaaGreatDoorTts15
import Derived.Defers
import Derived.Recover
import Derived.Laws.Pointers
import Derived.Test.YtmfjlcpjemccmaaGreatDoorTts07
import Derived.WalkKit
import Derived.Lib.OthersKept
import Derived.Lib.Strings
import Derived.Lib.Builder
import Derived.Lib.AppendStr
import Derived.Lib.UnsafeStr
import Derived.Lib.AppendIntMem
import Derived.Test.YtmfjlcpjemccmaaGreatDoorTts13
import Derived.Lib.ItoaNum
import Derived.WalkSmall
import Derived.Laws.BytesArg
import Derived.Laws.Concat
import Derived.Test.YtmfjlcpjemccmaaGreatDoorTts06
import Derived.Test.YtmfjlcpjemccmaaGreatDoorTts17
import Derived.Test.YtmfjlcpjemccmaaGreatDoorTts38
import Derived.Test.YtmfjlcpjemccmaaGreatDoorTts18
namespace Go.Proofs.YtmfjlcpjemccmaaGreatDoor
open Go.RowKit
/-- the three results' variables -/
def ResT (w : World) (R : Nat) (v : Value) (x e : Int) : Prop := Blk w R 24 #[v] ∧ Blk w (R + 1) 3 #[.int .i64 x] ∧ Blk w (R + 1 + 1) 25 #[.int .i64 e]
theorem wp_gen {P : Program} {c : Code} {Q : Exit → Act → World → Prop} {a : Act} {w : World} (h : ∀ Q', Hid (Q' = Q) → Code.wp P c Q' a w) : Code.wp P c Q a w := h Q (Hi_ rfl)
theorem as_place (v : Value) (w : World) : (Instr.typeAssert (.iface 136 v) 20 136 true).run Tryz.prog w = .ok (.tuple #[v, .bool true]) w := by kernel_rfl
set_option maxRecDepth 20000 in
theorem catch_pan (R : Nat) (y e0 : Int) (v : Value) (x : Int) (w : World) (h : ResT w R v y e0) :
  CallsD Tryz.prog 90 #[.pointer (some ⟨R, 0, none⟩), .pointer (some ⟨R + 1, 0, none⟩), .pointer (some ⟨R + 1 + 1, 0, none⟩)] (.panicking [{ v := .iface 136 (.int .i64 x), recovered := false }]) w fun e u' w' =>
   e = .returned (.tuple #[]) ∧ u' = .panicking [{ v := .iface 136 (.int .i64 x), recovered := true }] ∧ ResT w' R (.slice none 0 0) x 1 ∧ Below R w w' := by
 obtain ⟨h0, h1, h2⟩ := h
 have c0 := h0.cell (i := 0) (v := v) rfl
 have c3 := h1.cell (i := 0) (v := .int .i64 y) rfl
 have c4 := h2.cell (i := 0) (v := .int .i64 e0) rfl
 have f0 := h0.frozen 0
 have f3 := h1.frozen 0
 have f4 := h2.frozen 0
 have H0 := Hi_ h0
 have H1 := Hi_ h1
 have H2 := Hi_ h2
 have hta := fun W => as_place (.int .i64 x) W
 clear h0 h1 h2
 refine callsD_of_wpS Tryz.func90 rfl fun c₀ cs hu => ?_
 apply wpS_seq
 apply wpS_region
 simp [wpOpsS, go_sem, recoverD, hu, Tryz.ntmps90, Exit.thenS]
 refine wpS_of_wp (wp_gen fun Q' HQ => ?_)
 simp only [Array.replicate_succ, Array.replicate_zero, List.push_toArray, List.append_toArray, List.nil_append, List.cons_append, List.setIfInBounds_toArray, List.set_cons_succ, List.set_cons_zero]
 clear hu
 go_wp2
 rw [HQ.out]
 refine ⟨rfl, _, rfl, _, results_none rfl _ _ _, rfl, rfl, ⟨?_, ?_, ?_⟩, ?_⟩
 ·exact ((H0.out.set_ 0 _).far_ (by omega) 0 _).far_ (by omega) 0 _
 ·exact ((H1.out.far_ (by omega) 0 _).set_ 0 _).far_ (by omega) 0 _
 ·exact ((H2.out.far_ (by omega) 0 _).far_ (by omega) 0 _).set_ 0 _
 ·exact (((Below.refl R w).setCell (p := ⟨R, 0, none⟩) (Nat.le_refl _) _).setCell (p := ⟨R + 1, 0, none⟩) (by dsimp only; omega) _).setCell (p := ⟨R + 1 + 1, 0, none⟩) (by dsimp only; omega) _
set_option maxRecDepth 20000 in
theorem catch_idle (R : Nat) (w : World) :
  CallsD Tryz.prog 90 #[.pointer (some ⟨R, 0, none⟩), .pointer (some ⟨R + 1, 0, none⟩), .pointer (some ⟨R + 1 + 1, 0, none⟩)] .returning w fun e u' w' => e = .returned (.tuple #[]) ∧ u' = .returning ∧ w' = w := by
 refine callsD_of_wpS Tryz.func90 rfl fun c₀ cs hu => ?_
 apply wpS_seq
 apply wpS_region
 simp [wpOpsS, go_sem, recoverD, hu, Tryz.ntmps90, Exit.thenS]
 refine wpS_of_wp (wp_gen fun Q' HQ => ?_)
 simp only [Array.replicate_succ, Array.replicate_zero, List.push_toArray, List.append_toArray, List.nil_append, List.cons_append, List.setIfInBounds_toArray, List.set_cons_succ, List.set_cons_zero]
 have HU := Hi_ hu
 clear hu
 go_wp2
 rw [HQ.out]
 refine ⟨rfl, c₀.mode, ?_, _, results_none rfl _ _ _, rfl, HU.out, rfl⟩
 rfl
/-- what tokens are parsed to, its limits not looked at -/
def parse0T (l : List Tok) (E : Nat) : List TF × Int × Int := if (treeE l E).2.2 = true then ([], place l E (treeE l E).2.1, 1) else ((treeE l E).1, 0, 0)
def ParTR (B : Nat) (w0 : World) (y : List TF × Int × Int) (r : Ending) (w' : World) : Prop :=
 ∃ A c, r = .returned (.tuple #[.agg #[.slice A y.1.length c], .int .i64 y.2.1, .int .i64 y.2.2]) ∧ Sl tfR (low B w') (.slice A y.1.length c) y.1 ∧ Bel w0 w'
set_option maxRecDepth 20000 in
set_option maxHeartbeats 1000000 in
theorem tparse_any (l : List Tok) (lv : Value) (E g : Nat) (w0 w : World) (hl : Sl tokR w0 lv l) (hn : l.length ≤ 6000) (hok : ∀ t ∈ l, TokOk t) (hm : ∀ t ∈ l, t.text.size ≤ maxLen) (h0 : Bel w0 w) (hg : w0.heap.size ≤ g) (h : Ps w g lv 0 E) :
  Calls Tryz.prog 50 #[.pointer (some ⟨g, 0, none⟩)] w fun r w' => ParTR w.heap.size w0 (parse0T l E) r w' := by
 have hmf : ∀ (fn : Fn) (first cap : Array Value) (w : World), (Instr.makeFunc fn first cap).run Tryz.prog w = .ok (.func fn first cap) w := fun _ _ _ _ => rfl
 have hglt := h.lt
 have HW0 := Hi_ ((((Bel.rfl_ w).al (.cells #[.slice none 0 0] 24)).al (.cells #[.int .i64 0] 3)).al (.cells #[.int .i64 0] 25))
 have HA := Hi_ (fun W (hb : Bel w W) => ptree_any l lv E g w0 W hl hn hok hm hg (h0.tr hb) (h.keep hb))
 have HRS : Hid (ResT (((w.alloc (.cells #[.slice none 0 0] 24)).alloc (.cells #[.int .i64 0] 3)).alloc (.cells #[.int .i64 0] 25)) w.heap.size (.slice none 0 0) 0 0) := Hi_ ⟨((Blk.new w _ _).keep ((Bel.rfl_ _).al _)).keep ((Bel.rfl_ _).al _), by
  have := (Blk.new (w.alloc (.cells #[.slice none 0 0] 24)) 3 #[.int .i64 0]).keep ((Bel.rfl_ _).al (.cells #[.int .i64 0] 25))
  rwa [World.size_alloc] at this, by
  have := Blk.new ((w.alloc (.cells #[.slice none 0 0] 24)).alloc (.cells #[.int .i64 0] 3)) 25 #[.int .i64 0]
  rwa [World.size_alloc, World.size_alloc] at this⟩
 have H0 := Hi_ h0
 obtain ⟨xe, hxe⟩ : ∃ x, x = treeE l E := ⟨_, rfl⟩
 have hpe : parse0T l E = (if xe.2.2 = true then ([], place l E xe.2.1, 1) else (xe.1, 0, 0)) := by rw [hxe]; rfl
 rw [← hxe] at HA
 rw [hpe]
 clear h h0 hl hxe hpe
 obtain ⟨y, q, f⟩ := xe
 dsimp only at HA ⊢
 go_enter_defers Tryz.func50, Tryz.ntmps50
 go_upto_region 2 with fail
 generalize ((w.alloc (.cells #[.slice none 0 0] 24)).alloc (.cells #[.int .i64 0] 3)).alloc (.cells #[.int .i64 0] 25) = W0 at *
 go_wp2_with fail
 refine (HA.out _ HW0.out).mono ?_
 rintro r w1 hres
 cases f with
 | true =>
  obtain ⟨hg1, rfl⟩ := PsR.bad hres rfl
  obtain ⟨k0, k1, k2⟩ := HRS.out
  have HRS1 := Hi_ (show ResT w1 w.heap.size (.slice none 0 0) 0 0 from ⟨k0.grown hg1 (by simp; omega), k1.grown hg1 (by simp; omega), k2.grown hg1 (by simp; omega)⟩)
  have HB1 := Hi_ (grownBel (H0.out.tr HW0.out) hg hg1)
  have HB2 := Hi_ (Nat.le_trans H0.out.size (Nat.le_refl _))
  clear hg1 hres k0 k1 k2
  go_wp2
  refine leaves_cons (f := 90) (args := #[.pointer (some ⟨w.heap.size, 0, none⟩), .pointer (some ⟨w.heap.size + 1, 0, none⟩), .pointer (some ⟨w.heap.size + 1 + 1, 0, none⟩)]) (by simp) (by simp [go_sem]) ?_
  refine (catch_pan w.heap.size 0 0 (.slice none 0 0) (place l E q) w1 HRS1.out).mono ?_
  rintro e u' w2 ⟨rfl, rfl, ⟨k0, k1, k2⟩, hb2⟩
  have z0 := k0.cell (i := 0) (v := .slice none 0 0) rfl
  have z3 := k1.cell (i := 0) (v := .int .i64 (place l E q)) rfl
  have z4 := k2.cell (i := 0) (v := .int .i64 1) rfl
  have HBE := Hi_ (HB1.out.trans (Below.mono hb2 HB2.out))
  clear k0 k1 k2 hb2
  simp [Leaves, settle, results, Tryz.results50, go_sem, z0, z3, z4]
  exact ⟨none, 0, rfl, Sl.nil_ _ _, HBE.out⟩
 | false =>
  obtain ⟨hg1, hp1, A1, c1, rfl, hs1⟩ := PsR.good hres rfl
  obtain ⟨k0, k1, k2⟩ := HRS.out
  replace k0 := k0.grown hg1 (by simp; omega)
  have HRS1 := Hi_ (show ResT w1 w.heap.size (.slice none 0 0) 0 0 from ⟨k0, k1.grown hg1 (by simp; omega), k2.grown hg1 (by simp; omega)⟩)
  have HB1 := Hi_ (grownBel (H0.out.tr HW0.out) hg hg1)
  have HB2 := Hi_ (Nat.le_trans H0.out.size (Nat.le_refl _))
  have HS1 := Hi_ hs1
  have hwr : w.heap.size < W0.heap.size := HRS.out.1.lt
  have hw3 : w.heap.size + 1 + 1 < W0.heap.size := HRS.out.2.2.lt
  have hw2 : w.heap.size + 1 < W0.heap.size := by omega
  obtain ⟨j0, j1, j2⟩ := HRS1.out
  have r0 := j0.cell (i := 0) (v := .slice none 0 0) rfl
  have r3 := j1.cell (i := 0) (v := .int .i64 0) rfl
  have r4 := j2.cell (i := 0) (v := .int .i64 0) rfl
  have f0 := j0.frozen 0
  have f3 := j1.frozen 0
  have f4 := j2.frozen 0
  clear hg1 hres k0 k1 k2 hs1 hp1 HRS j0 j1 j2 HA
  go_wp2
  obtain ⟨k0, k1, k2⟩ := HRS1.out
  have j0 := ((k0.set_ 0 (.slice A1 y.length c1)).far_ (R := w.heap.size + 1) (by omega) 0 (.int .i64 0)).far_ (R := w.heap.size + 1 + 1) (by omega) 0 (.int .i64 0)
  have j1 := ((k1.far_ (R := w.heap.size) (by omega) 0 (.slice A1 y.length c1)).set_ 0 (.int .i64 0)).far_ (R := w.heap.size + 1 + 1) (by omega) 0 (.int .i64 0)
  have j2 := ((k2.far_ (R := w.heap.size) (by omega) 0 (.slice A1 y.length c1)).far_ (R := w.heap.size + 1) (by omega) 0 (.int .i64 0)).set_ 0 (.int .i64 0)
  have hs := ((HS1.out.keep (low_set _ (i := 0) (.slice A1 y.length c1) hwr)).keep (low_set _ (i := 0) (.int .i64 0) hw2)).keep (low_set _ (i := 0) (.int .i64 0) hw3)
  have hb := ((HB1.out.setCell (p := ⟨w.heap.size, 0, none⟩) HB2.out (.slice A1 y.length c1)).setCell (p := ⟨w.heap.size + 1, 0, none⟩) (Nat.le_trans HB2.out (by dsimp only; omega)) (.int .i64 0)).setCell (p := ⟨w.heap.size + 1 + 1, 0, none⟩) (Nat.le_trans HB2.out (by dsimp only; omega)) (.int .i64 0)
  have HSS := Hi_ hs
  have HBB := Hi_ hb
  have z0 := j0.cell (i := 0) (v := .slice A1 y.length c1) rfl
  have z3 := j1.cell (i := 0) (v := .int .i64 0) rfl
  have z4 := j2.cell (i := 0) (v := .int .i64 0) rfl
  clear hs hb k0 k1 k2 j0 j1 j2 r0 r3 r4 f0 f3 f4
  generalize World.setCell _ ⟨w.heap.size + 1 + 1, 0, none⟩ _ = W9 at *
  refine leaves_cons (f := 90) (args := #[.pointer (some ⟨w.heap.size, 0, none⟩), .pointer (some ⟨w.heap.size + 1, 0, none⟩), .pointer (some ⟨w.heap.size + 1 + 1, 0, none⟩)]) (by simp) (by simp [go_sem]) ?_
  refine (catch_idle w.heap.size W9).mono ?_
  rintro e u' w2 ⟨rfl, rfl, rfl⟩
  simp [Leaves, settle, results, Tryz.results50, go_sem, z0, z3, z4]
  exact ⟨A1, c1, rfl, low_mono tfR_more (Nat.le_of_lt hwr) HSS.out, HBB.out⟩
theorem parseD_off {s : ByteArray} (h : (scanOf s).2.2 ≠ 0) : parseD s = ([], (scanOf s).2.1, (scanOf s).2.2) := by
 unfold parseD
 rw [if_neg h]
theorem treeE_iff {l : List Tok} {E : Nat} : (treeE l E).2.2 = true ↔ ((treeD l E).2.2 = true ∨ (treeD l E).2.1 < l.length) := by
 unfold treeE
 dsimp only
 by_cases h : (treeD l E).2.2 = true ∨ (treeD l E).2.1 < l.length
 ·rw [if_pos h]
  exact ⟨fun _ => h, fun _ => rfl⟩
 ·rw [if_neg h]
  exact ⟨fun e => absurd (Or.inl e) h, fun e => absurd e h⟩
theorem treeE_pos {l : List Tok} {E : Nat} : (treeE l E).2.1 = (treeD l E).2.1 := by
 unfold treeE
 dsimp only
 split <;> rfl
theorem parseD_bad {s : ByteArray} (h : (scanOf s).2.2 = 0) (hf : (treeE (scanOf s).1 s.size).2.2 = true) : parseD s = ([], place (scanOf s).1 s.size (treeE (scanOf s).1 s.size).2.1, 1) := by
 unfold parseD
 rw [if_pos h, if_pos (treeE_iff.1 hf), treeE_pos]
theorem parseD_good {s : ByteArray} (h : (scanOf s).2.2 = 0) (hf : (treeE (scanOf s).1 s.size).2.2 = false) : parseD s = if errT (treeE (scanOf s).1 s.size).1 = 0 then ((treeE (scanOf s).1 s.size).1, 0, 0) else ([], 0, errT (treeE (scanOf s).1 s.size).1) := by
 unfold parseD
 rw [if_pos h, if_neg (fun e => by rw [treeE_iff.2 e] at hf; cases hf)]
 rfl
set_option maxRecDepth 20000 in
set_option maxHeartbeats 2000000 in
theorem treeParse_any (s : ByteArray) (w : World) (hm : s.size ≤ maxLen) :
  Calls Tryz.prog 19 #[.string s] w fun r w' => TreeRes w (parseD s) r w' := by
 have HS := Hi_ (fun W => scan_any s W hm)
 have HR0 := Hi_ (Blk.new w 24 #[.slice none 0 0])
 have HB := Hi_ ((Bel.rfl_ w).al (.cells #[.slice none 0 0] 24))
 go_enter Tryz.func19, Tryz.ntmps19
 go_upto_region 1 with fail
 generalize w.alloc (.cells #[.slice none 0 0] 24) = W0 at *
 go_wp2_with fail
 refine (HS.out _).mono ?_
 rintro r w1 ⟨v, rfl, hsl, hb1⟩
 obtain ⟨LA, lc, rfl, -⟩ := id hsl
 replace HB := Hi_ (HB.out.tr hb1)
 replace HR0 := Hi_ (HR0.out.keep hb1)
 have HL := Hi_ hsl
 clear hb1 hsl HS
 have r0 := HR0.out.cell (i := 0) (v := .slice none 0 0) rfl
 have f0 := HR0.out.frozen 0
 by_cases he : (scanOf s).2.2 = 0
 rotate_left
 ·have HP := Hi_ (parseD_off he)
  have hd : ((scanOf s).2.2 != 0) = true := by simpa using he
  clear he HL
  generalize (scanOf s).2.2 = e at *
  generalize (scanOf s).2.1 = a at *
  generalize (scanOf s).1 = l at *
  go_wp2
  have z0 := (HR0.out.set_ 0 (.slice none 0 0)).cell (i := 0) (v := .slice none 0 0) rfl
  refine bodyPost_ret (v := .tuple #[.agg #[.slice none 0 0], .int .i64 a, .int .i64 e]) (by simp [results, z0, go_sem]) rfl ?_
  rw [HP.out]
  exact ⟨_, rfl, Sl.nil_ _ _, HB.out.setCell (p := ⟨w.heap.size, 0, none⟩) (Nat.le_refl _) _⟩
 ·obtain ⟨hok, hn, hs6⟩ := scan_ok he
  have hmx := scan_max he
  have HPB := Hi_ (parseD_bad he)
  have HPG := Hi_ (parseD_good he)
  rw [he]
  clear he
  generalize (scanOf s).1 = l at *
  generalize (scanOf s).2.1 = a at *
  have hba := (Bel.rfl_ w1).al (.cells #[.slice LA l.length lc, .int .i64 0, .int .i64 s.size] 88)
  have HPA := Hi_ (tparse_any l (.slice LA l.length lc) s.size w1.heap.size w1 (w1.alloc (.cells #[.slice LA l.length lc, .int .i64 0, .int .i64 s.size] 88)) HL.out hn hok hmx hba (Nat.le_refl _) (Blk.new _ _ _))
  have HSW : Hid (w.heap.size + 1 ≤ (w1.alloc (.cells #[.slice LA l.length lc, .int .i64 0, .int .i64 s.size] 88)).heap.size) := Hi_ (by have := HR0.out.lt; simp; omega)
  have hpe : parse0T l s.size = (if (treeE l s.size).2.2 = true then ([], place l s.size (treeE l s.size).2.1, 1) else ((treeE l s.size).1, 0, 0)) := rfl
  rw [hpe] at HPA
  clear hba hok HL r0 f0 hpe
  go_wp2_with fail
  refine HPA.out.mono ?_
  rintro r w2 ⟨QA, qc, rfl, hqs, hb2⟩
  replace HB := Hi_ (HB.out.tr hb2)
  replace HR0 := Hi_ (HR0.out.keep hb2)
  have HQS := Hi_ (low_mono (B' := w.heap.size + 1) tfR_more HSW.out hqs)
  clear hqs hb2 HPA HSW
  generalize treeE l s.size = xe at *
  obtain ⟨y, q, f⟩ := xe
  dsimp only at *
  cases f with
  | true =>
   have HP := Hi_ (HPB.out rfl)
   clear HPB HPG HQS
   have hba := (Bel.rfl_ w2).al (.cells #[.slice QA 0 qc] 24)
   replace HB := Hi_ (HB.out.tr hba)
   replace HR0 := Hi_ (HR0.out.keep hba)
   clear hba
   simp only [if_true, List.length_nil]
   generalize place l s.size q = x at *
   go_upto_region 5 with fail
   generalize w2.alloc (.cells #[.slice QA 0 qc] 24) = W3 at *
   have r0 := HR0.out.cell (i := 0) (v := .slice none 0 0) rfl
   have f0 := HR0.out.frozen 0
   go_wp2
   have z0 := (HR0.out.set_ 0 (.slice none 0 0)).cell (i := 0) (v := .slice none 0 0) rfl
   refine bodyPost_ret (v := .tuple #[.agg #[.slice none 0 0], .int .i64 x, .int .i64 1]) (by simp [results, z0, go_sem]) rfl ?_
   rw [HP.out]
   exact ⟨_, rfl, Sl.nil_ _ _, HB.out.setCell (p := ⟨w.heap.size, 0, none⟩) (Nat.le_refl _) _⟩
  | false =>
   have HP := Hi_ (HPG.out rfl)
   clear HPB HPG
   simp only [Bool.false_eq_true, if_false] at HQS ⊢
   have hba := (Bel.rfl_ w2).al (.cells #[.slice QA y.length qc] 24)
   have HQB := Hi_ (Blk.new w2 24 #[.slice QA y.length qc])
   replace HB := Hi_ (HB.out.tr hba)
   replace HR0 := Hi_ (HR0.out.keep hba)
   replace HQS := Hi_ (HQS.out.keep (low_belB hba))
   clear hba
   go_upto_region 6 with fail
   generalize w2.alloc (.cells #[.slice QA y.length qc] 24) = W3 at *
   generalize w2.heap.size = G8 at *
   have HCK := Hi_ (check_any y _ W3 (low_up tfR_more HQS.out))
   have b0 := HQB.out.cell (i := 0) (v := .slice QA y.length qc) rfl
   go_wp2_with fail
   refine HCK.out.mono ?_
   rintro r w4 ⟨rfl, hb4⟩
   replace HB := Hi_ (HB.out.tr hb4)
   replace HR0 := Hi_ (HR0.out.keep hb4)
   replace HQB := Hi_ (HQB.out.keep hb4)
   replace HQS := Hi_ (HQS.out.keep (low_belB hb4))
   clear b0 hb4 HCK
   have b0 := HQB.out.cell (i := 0) (v := .slice QA y.length qc) rfl
   have r0 := HR0.out.cell (i := 0) (v := .slice none 0 0) rfl
   have f0 := HR0.out.frozen 0
   have hsn := Nat.lt_succ_self w.heap.size
   by_cases hq0 : errT y = 0
   ·rw [if_pos hq0] at HP
    rw [hq0]
    clear hq0
    go_wp2
    have z0 := (HR0.out.set_ 0 (.slice QA y.length qc)).cell (i := 0) (v := .slice QA y.length qc) rfl
    refine bodyPost_ret (v := .tuple #[.agg #[.slice QA y.length qc], .int .i64 0, .int .i64 0]) (by simp [results, z0, go_sem]) rfl ?_
    rw [HP.out]
    exact ⟨_, rfl, low_mono tfR_more (Nat.le_of_lt hsn) (HQS.out.keep (low_set _ _ hsn)), HB.out.setCell (p := ⟨w.heap.size, 0, none⟩) (Nat.le_refl _) _⟩
   ·rw [if_neg hq0] at HP
    have hd : (errT y != 0) = true := by simpa using hq0
    clear hq0
    generalize errT y = e at *
    go_wp2
    have z0 := (HR0.out.set_ 0 (.slice none 0 0)).cell (i := 0) (v := .slice none 0 0) rfl
    refine bodyPost_ret (v := .tuple #[.agg #[.slice none 0 0], .int .i64 0, .int .i64 e]) (by simp [results, z0, go_sem]) rfl ?_
    rw [HP.out]
    exact ⟨_, rfl, Sl.nil_ _ _, HB.out.setCell (p := ⟨w.heap.size, 0, none⟩) (Nat.le_refl _) _⟩
/-- the library's table of powers -/
def Tab (w : World) : Prop := Lib.TabIs Tryz.prog w "internal/strconv.uint64pow10" .u64 Lib.pow10Tab
section
variable {o : Oper} {ρ : Operand → Value} {W : World} {x y : Operand} {b f n c k : Nat}
theorem rl_idxV (ho : o.op = .indexAddr 45 x y) (hx : ρ x = .slice (some ⟨b, f, none⟩) n c) (hy : ρ y = .int .i64 k) (h1 : k < n) : (execOp ρ o).run Tryz.prog W = .ok (.value (.pointer (some ⟨b, f + k * 2, none⟩))) W := by
 have i0 : (0 : Int) ≤ k := by omega
 have i1 : (k : Int) < n := by omega
 simp [execOp, ho, hx, hy, go_sem]
 intro h
 exact absurd h (by omega)
theorem rl_idxC (ho : o.op = .indexAddr 46 x y) (hx : ρ x = .slice (some ⟨b, f, none⟩) n c) (hy : ρ y = .int .i64 k) (h1 : k < n) : (execOp ρ o).run Tryz.prog W = .ok (.value (.pointer (some ⟨b, f + k * 17, none⟩))) W := by
 have i0 : (0 : Int) ≤ k := by omega
 have i1 : (k : Int) < n := by omega
 simp [execOp, ho, hx, hy, go_sem]
 intro h
 exact absurd h (by omega)
end
end Go.Proofs.YtmfjlcpjemccmaaGreatDoor
