/- The printer of trees: its lines, and texts with commas: walked. The printer's state between its calls; lines in plain words; a list of texts that is laid. Each lemma states its own conditions. -/
import Derived.Test.YtmfjlcpjemccmaaGreatDoorSms27
import Derived.Test.YtmfjlcpjemccmaaGreatDoorSms31
namespace Go.Proofs.YtmfjlcpjemccmaaGreatDoor
open Go.RowKit
theorem strCells_app (a b : ByteArray) : Lib.strCells (a ++ b) = Lib.strCells a ++ Lib.strCells b := by
 unfold Lib.strCells
 rw [ByteArray.data_append, Array.toList_append, List.map_append]
/-- a line of a printer -/
def lineB (n : Nat) (l : List ByteArray) : ByteArray := (indB n ++ catB l) ++ ⟨#[10]⟩
set_option maxRecDepth 20000 in
set_option maxHeartbeats 4000000 in
theorem line_pr {B q : Nat} {n : Nat} {bs : List Value} {w : World} (l : List ByteArray) (g : Nat) (h : Pr B q n bs w) (hg : Blk w g 9 (l.map Value.string).toArray) (hBw : B ≤ w.heap.size) (hn : n ≤ 100000) (hs : bs.length ≤ 1000000) (hc : (catB l).size ≤ 700000) (hl : l.length ≤ 100) :
  Calls Tryz.prog 76 #[.pointer (some ⟨q, 0, none⟩), .slice (some ⟨g, 0, none⟩) l.length l.length] w fun r w' => r = .returned (.tuple #[]) ∧ Pr B q n (bs ++ Lib.strCells (lineB n l)) w' ∧ Kp B q w w' := by
 have HPR := Hi_ h
 have HGB := Hi_ hg
 have hin := indB_size n
 have HX := Hi_ (Bel.rfl_ w).dr
 have HDP : Hid (∀ W, (Bel w W ∨ (Pr B q n (bs ++ Lib.strCells (lineB n l)) W ∧ Kp B q w W)) → W.cell? ⟨q, 2, none⟩ = some (.int .i64 n)) := Hi_ fun W hW => by
  rcases hW with hb | ⟨hp, -⟩
  ·exact (h.keep hb).deep.1
  ·exact hp.deep.1
 clear h hg
 go_enter Tryz.func76, Tryz.ntmps76
 go_upto_region 0 with fail
 refine wp_region_held_drew (S := fun W => Bel w W ∨ (Pr B q n (bs ++ Lib.strCells (lineB n l)) W ∧ Kp B q w W)) (by kernel_rfl) (Or.inl (Bel.rfl_ w).dr) (fun hS => ?_)
 refine rt_t (i := 0) (some 4) (.pointer (some ⟨q, 0, none⟩)) rfl hS (fun W _ => by kernel_rfl) ?_
 refine rt_t (i := 1) (some 5) (.pointer (some ⟨q, 0, none⟩)) rfl hS (fun W _ => by kernel_rfl) ?_
 refine rt_t (i := 2) (some 6) (.pointer (some ⟨q, 0, none⟩)) rfl hS (fun W _ => by kernel_rfl) ?_
 refine rt_t (i := 3) (some 7) (.pointer (some ⟨q, 0, none⟩)) rfl hS (fun W _ => by kernel_rfl) ?_
 refine rt_t (i := 4) (some 8) (.pointer (some ⟨q, 0, none⟩)) rfl hS (fun W _ => by kernel_rfl) ?_
 refine rt_t (i := 5) (some 9) (.pointer (some ⟨q, 2, none⟩)) rfl hS (fun W _ => by kernel_rfl) ?_
 refine rt_t (i := 6) (some 10) (.int .i64 n) rfl hS (fun W hb => rl_int_ (HDP.out W hb)) ?_
 refine rt_t (i := 8) (some 12) (.slice (some ⟨g, 0, none⟩) l.length l.length) rfl hS (fun W _ => by kernel_rfl) ?_
 refine rt_call (i := 7) (some 11) (by kernel_rfl) rfl rfl (by kernel_rfl) 134 #[.string (⟨#[32, 32]⟩ : ByteArray), .int .i64 n] (by kernel_rfl) (rep_any n _ hn) ?_
 rintro e W1 ⟨rfl, hb⟩
 replace HX := Hi_ (HX.out.tr hb)
 refine ⟨_, rfl, Or.inl HX.out, fun hS => ?_⟩
 refine rt_call (i := 9) (some 13) (by kernel_rfl) rfl rfl (by kernel_rfl) 64 #[.slice (some ⟨g, 0, none⟩) l.length l.length, .string (⟨#[]⟩ : ByteArray)] (by kernel_rfl) (joinE_any l g _ (HGB.out.keep HX.out) (by omega) (by omega)) ?_
 rintro e W2 ⟨rfl, hb⟩
 replace HX := Hi_ (HX.out.tr hb)
 refine ⟨_, rfl, Or.inl HX.out, fun hS => ?_⟩
 refine rt_t (i := 10) (some 14) (.string ((indB n) ++ (catB l))) rfl hS (fun W _ => rb_addS rfl (by kernel_rfl) (by kernel_rfl) (by have e0 : (⟨#[10]⟩ : ByteArray).size = 1 := rfl; (try simp only [ByteArray.size_append]); omega)) ?_
 refine rt_t (i := 11) (some 15) (.string (((indB n) ++ (catB l)) ++ (⟨#[10]⟩ : ByteArray))) rfl hS (fun W _ => rb_addS rfl (by kernel_rfl) (by kernel_rfl) (by have e0 : (⟨#[10]⟩ : ByteArray).size = 1 := rfl; (try simp only [ByteArray.size_append]); omega)) ?_
 refine rt_call (i := 12) (some 16) (by kernel_rfl) rfl rfl (by kernel_rfl) 116 #[.pointer (some ⟨q, 0, none⟩), .string (((indB n) ++ (catB l)) ++ (⟨#[10]⟩ : ByteArray))] (by kernel_rfl) (write_pr _ (HPR.out.keep HX.out) (by have e0 : (⟨#[10]⟩ : ByteArray).size = 1 := rfl; simp only [ByteArray.size_append]; omega) (Nat.le_trans hBw HX.out.size)) ?_
 rintro e W3 ⟨rfl, hpr, hk⟩
 have HK := Hi_ ((Kp.of HX.out hBw).tr hk)
 have HP := Hi_ hpr
 refine ⟨_, rfl, Or.inr ⟨hpr, HK.out⟩, fun hS => ?_⟩
 clear hpr hk
 refine wpAnyH_done (by kernel_rfl) ?_ _
 try simp only [Act.put, lA, lB, lC]
 go_wp2
 go_end0
 exact ⟨rfl, HP.out, HK.out⟩
set_option maxRecDepth 20000 in
set_option maxHeartbeats 4000000 in
theorem each_any (l : List TE) (v : Value) (w : World) (h : Sl teR w v l) (ht : Tab w) (hok : ∀ e ∈ l, e.ok = true) (hs : (comsB (l.map TE.text)).size ≤ 100000) :
  Calls Tryz.prog 180 #[v, .func (.func 79) #[] #[]] w fun r w' => r = .returned (.string (comsB (l.map TE.text))) ∧ Bel w w' := by
 have HSL := Hi_ h
 have HOK := Hi_ hok
 have HTB := Hi_ ht
 obtain ⟨A, c, rfl, hc, hm, -⟩ := h
 have hll : l.length ≤ 9223372036854775807 := by have := hm.1; simp only [maxLen] at this; omega
 have hAL : (l.map TE.text).length = l.length := List.length_map _
 have hal2 := coms_len (l.map TE.text)
 rw [hAL] at hal2
 have HAT : Hid (∀ (k : Nat) e, l[k]? = some e → (l.map TE.text)[k]? = some e.text) := Hi_ fun k e he => by rw [List.getElem?_map, he]; rfl
 have HCM := Hi_ (fun y (hy : y ∈ l.map TE.text) => coms_mem hy)
 generalize l.map TE.text = AL at *
 clear hc hm hok ht
 go_enter Tryz.func180, Tryz.ntmps180
 go_wp2
 go_loopw [5, 10] (fun u i wr => ∃ k : Nat, i = .int .i64 k ∧ k ≤ l.length ∧ Hid (wr.ownsRow w.heap.size 9 1 u k ((AL.take k).map Value.string)) ∧ Hid (Bel w wr)) (fun _ i _ => l.length - (intOf i).toNat)
 case atStart => exact ⟨0, rfl, Nat.zero_le _, Hi_ (World.ownsRow_nil _ _ _ _), Hi_ (Bel.rfl_ _)⟩
 case round =>
  obtain ⟨k, rfl, hk2, HO, HB2⟩ := hrel
  obtain ⟨WO, hWO⟩ : ∃ W, W = wr := ⟨_, rfl⟩
  subst hWO
  by_cases hlt2 : k < l.length
  ·have hd2 : decide ((k : Int) < l.length) = true := decide_eq_true (by omega)
   obtain ⟨e, he⟩ : ∃ e, l[k]? = some e := ⟨_, List.getElem?_eq_getElem hlt2⟩
   obtain ⟨b2, o2, rfl, hA2⟩ := HSL.out.lies (by omega)
   obtain ⟨cs, hce, hca2⟩ := hA2 k e he
   have hae := HAT.out k e he
   have hes : e.text.size ≤ 100000 := by have := HCM.out _ (List.mem_of_getElem? hae); omega
   have HEC := Hi_ (fun W (hb : Bel w W) => showE_any e _ W ((TER.tev hce).keep hb) (HTB.out.keep hb) (HOK.out e (List.mem_of_getElem? he)) hes)
   have HL := Hi_ (teR.len hce)
   have HON := Hi_ (teR_one hce)
   have HCA : Hid (CellsAt w b2 (o2 + k * 5) cs) := Hi_ hca2
   have HTK : Hid ((AL.take (k + 1)).map Value.string = (AL.take k).map Value.string ++ [.string e.text]) := Hi_ (by rw [take_snoc hae, List.map_append]; rfl)
   have i2 : (0 : Int) ≤ k := by omega
   have i3 : (k : Int) < l.length := by omega
   clear he hce hca2 hae hA2
   go_upto_region 4 with fail
   refine wl_region ?_
   try dsimp only [List.append]
   refine wl_e (some 12) (.pointer (some ⟨b2, o2 + k * 5, none⟩)) (by go_simp) ?_
   refine wl_e (some 13) (.agg cs.toArray) (run_loadRow 49 (.tmp 12) rfl elTE b2 (o2 + k * 5) (by kernel_rfl) cs (HCA.out.keep HB2.out) HL.out (by kernel_rfl)) ?_
   refine wl_alloc (some 7) rfl 49 rfl rfl elTE fun z hz => ?_
   refine wl_store none rfl 49 (.tmp 7) (.tmp 13) rfl rfl elTE WO.heap.size cs (by kernel_rfl) (by kernel_rfl) (Blk.new WO 49 z) hz HL.out HON.out ?_
   have HX : Hid (Bel WO ((WO.alloc (.cells z 49)).setRow WO.heap.size cs.toArray)) := Hi_ (((Bel.rfl_ WO).al _).row (Nat.le_refl _) _)
   have HK := Hi_ ((Blk.new WO 49 z).row_same cs.toArray)
   clear hz
   generalize (WO.alloc (.cells z 49)).setRow WO.heap.size cs.toArray = W1 at *
   generalize WO.heap.size = G1 at *
   refine wl_nil ?_
   try simp only [Act.put, lA, lB, lC]
   go_upto_region 5 with fail
   refine wl_region ?_
   try dsimp only [List.append]
   refine wl_k (some 14) u5 ?_
   refine wl_k (some 15) (.func (.func 79) #[] #[]) ?_
   refine wl_e (some 16) (.agg cs.toArray) (run_loadRow 49 (.tmp 7) rfl elTE G1 0 (by kernel_rfl) cs (blk_all HK.out) HL.out (by kernel_rfl)) ?_
   refine wl_cl (some 17) 79 #[.agg cs.toArray] (HEC.out _ (HB2.out.tr HX.out)) ?_
   rintro r W3 ⟨rfl, hb3⟩
   have HO3 := Hi_ (hb3.own (HX.out.own HO.out))
   have HB3 := Hi_ ((HB2.out.tr HX.out).tr hb3)
   clear hb3 HO HB2 HX HK
   refine ⟨_, rfl, WL.mk ?_⟩
   try simp only [Act.put, lA, lB, lC]
   go_wp2_with (at_builtin; refine wpl_app W3 rfl (.tmp 14) (.tmp 18) 44 rfl w.heap.size elSt u5 k _ rfl HO3.out [.string e.text] rfl rfl (by simp [Value.oneCell']) (by simp only [maxLen]; omega) (by omega) HB3.out.size ?_; intro g cap w2 hown2 hg2 _; have HO2 := Hi_ hown2; have HB4 := Hi_ (Below.ofGrown HB3.out HO3.out hg2 (Nat.le_refl _) HB3.out.size); clear hown2 hg2)
   go_roundw
   case rel => exact ⟨k + 1, by go_num, by omega, (by unfold Hid; rw [HTK.out]; exact HO2.out), HB4⟩
   case measure => simp [intOf]; omega
  ·have hd2 : decide ((k : Int) < l.length) = false := decide_eq_false (by omega)
   obtain rfl : k = l.length := by omega
   have HSV : Hid (Sl nmR WO u5 AL) := Hi_ (Sl.own_nm (by have := HO.out; rw [List.take_of_length_le (by omega)] at this; exact this) hAL.symm fun y hy => by have := HCM.out y hy; simp only [maxLen]; omega)
   have HJ := Hi_ (joinC_any AL u5 WO HSV.out (by omega))
   go_wp2_with fail
   refine HJ.out.mono ?_
   rintro r w1 ⟨rfl, hb⟩
   go_wp2
   go_ret
   exact ⟨rfl, HB2.out.tr hb⟩
theorem run_bsS {o : Oper} {ρ : Operand → Value} {W : World} (n : Nat) (parts : Array (Nat × Operand)) (cs : List Value) (ho : o.op = .buildSlice 44 n parts) (h0 : 0 < n) (h1 : n ≤ 100)
  (hf : Instr.fill (fun i => some (i, 1)) (Array.replicate n (Value.string ⟨#[]⟩)) (List.map (fun x => (x.fst, ρ x.snd)) parts.toList) = some cs.toArray) :
  (execOp ρ o).run Tryz.prog W = .ok (.value (.slice (some ⟨W.heap.size, 0, none⟩) n n)) (W.alloc (.cells cs.toArray 9)) := by
 have hz : Array.map (fun x => [Value.string ⟨#[]⟩][x % 1]?.getD default) (Array.range n) = Array.replicate n (Value.string ⟨#[]⟩) := by
  apply Array.ext
  ·simp
  ·intro i h1 h2
   simp [Nat.mod_one]
 simp [execOp, ho, Instr.buildSlice, go_sem]
 rw [if_neg (by omega), if_neg (by omega), hz, hf]
 simp [go_sem]
/-- the printer, what was written as bytes -/
def PrS (B q : Nat) (n : Nat) (s : ByteArray) (w : World) : Prop := Pr B q n (Lib.strCells s) w
theorem PrS.keep {B q n : Nat} {s : ByteArray} {w w' : World} (h : PrS B q n s w) (hb : Bel w w') : PrS B q n s w' := Pr.keep h hb
theorem line_s {w0 w : World} {q n : Nat} {s : ByteArray} (l : List ByteArray) (g : Nat) (h : PrS w0.heap.size q n s w) (hx : Bel w0 w) (hg : Blk w g 9 (l.map Value.string).toArray) (hn : n ≤ 100000) (hs : s.size ≤ 1000000) (hc : (catB l).size ≤ 700000) (hl : l.length ≤ 100) :
  Calls Tryz.prog 76 #[.pointer (some ⟨q, 0, none⟩), .slice (some ⟨g, 0, none⟩) l.length l.length] w fun r w' => r = .returned (.tuple #[]) ∧ PrS w0.heap.size q n (s ++ lineB n l) w' ∧ Kp w0.heap.size q w w' := by
 refine (line_pr l g h hg hx.size hn (by rw [Lib.strCells_length]; exact hs) hc hl).mono fun r w' hh => ⟨hh.1, ?_, hh.2.2⟩
 unfold PrS
 rw [strCells_app]
 exact hh.2.1
theorem Kp.bel {w0 w w' : World} {q : Nat} (hx : Bel w0 w) (h : Kp w0.heap.size q w w') : Bel w0 w' := Below.trans hx h.1
theorem line1 (n : Nat) (a e : ByteArray) : lineB n [a, ⟨#[32, 61, 32]⟩, e, ⟨#[59]⟩] = indB n ++ (a ++ (isB ++ (e ++ endB))) := by
 unfold lineB
 simp only [catB, ByteArray.append_assoc]
 rfl
theorem line2 (n : Nat) (a i e : ByteArray) : lineB n [a, ⟨#[91]⟩, i, ⟨#[93, 32, 61, 32]⟩, e, ⟨#[59]⟩] = indB n ++ (a ++ (lsqB ++ (i ++ (putB ++ (e ++ endB))))) := by
 unfold lineB
 simp only [catB, ByteArray.append_assoc]
 rfl
theorem line3 (n : Nat) (a t c : ByteArray) : lineB n [a, ⟨#[32, 61, 32]⟩, t, ⟨#[40]⟩, c, ⟨#[41, 59]⟩] = indB n ++ (a ++ (isB ++ (t ++ (lparB ++ (c ++ calB))))) := by
 unfold lineB
 simp only [catB, ByteArray.append_assoc]
 rfl
theorem line4 (n : Nat) (a : ByteArray) : lineB n [a, ⟨#[32, 61, 32, 114, 101, 97, 100, 59]⟩] = indB n ++ (a ++ rdB) := by
 unfold lineB
 simp only [catB, ByteArray.append_assoc]
 rfl
theorem line5 (n : Nat) (e : ByteArray) : lineB n [⟨#[112, 114, 105, 110, 116, 32]⟩, e, ⟨#[59]⟩] = indB n ++ (priB ++ (e ++ endB)) := by
 unfold lineB
 simp only [catB, ByteArray.append_assoc]
 rfl
theorem line6 (n : Nat) (e : ByteArray) : lineB n [⟨#[105, 102, 32]⟩, e, ⟨#[32, 123]⟩] = indB n ++ (iffB ++ (e ++ opnB)) := by
 unfold lineB
 simp only [catB, ByteArray.append_assoc]
 rfl
theorem line7 (n : Nat) (e : ByteArray) : lineB n [⟨#[119, 104, 105, 108, 101, 32]⟩, e, ⟨#[32, 123]⟩] = indB n ++ (whiB ++ (e ++ opnB)) := by
 unfold lineB
 simp only [catB, ByteArray.append_assoc]
 rfl
theorem lineElse (n : Nat) : lineB n [⟨#[125, 32, 101, 108, 115, 101, 32, 123]⟩] = indB n ++ elsB := by
 unfold lineB
 simp only [catB, ByteArray.append_assoc]
 rfl
theorem lineEnd (n : Nat) : lineB n [⟨#[125]⟩] = indB n ++ cloB := by
 unfold lineB
 simp only [catB, ByteArray.append_assoc]
 rfl
theorem lineMain : lineB 0 [⟨#[109, 97, 105, 110, 32, 123]⟩] = maiB := by rfl
theorem lineFunc (a c : ByteArray) : lineB 0 [⟨#[102, 117, 110, 99, 32]⟩, a, ⟨#[40]⟩, c, ⟨#[41, 32, 123]⟩] = funB ++ (a ++ (lparB ++ (c ++ hedB))) := by
 unfold lineB
 simp only [catB, ByteArray.append_assoc]
 rfl
theorem lineVar (a : ByteArray) : lineB 1 [⟨#[118, 97, 114, 32]⟩, a, ⟨#[59]⟩] = vaB ++ (a ++ endB) := by
 unfold lineB
 simp only [catB, ByteArray.append_assoc]
 rfl
theorem lineArr (a d : ByteArray) : lineB 1 [⟨#[97, 114, 114, 32]⟩, a, ⟨#[32]⟩, d, ⟨#[59]⟩] = arB ++ (a ++ (spB ++ (d ++ endB))) := by
 unfold lineB
 simp only [catB, ByteArray.append_assoc]
 rfl
theorem lineRet (e : ByteArray) : lineB 1 [⟨#[114, 101, 116, 117, 114, 110, 32]⟩, e, ⟨#[59]⟩] = retB ++ (e ++ endB) := by
 unfold lineB
 simp only [catB, ByteArray.append_assoc]
 rfl
end Go.Proofs.YtmfjlcpjemccmaaGreatDoor
