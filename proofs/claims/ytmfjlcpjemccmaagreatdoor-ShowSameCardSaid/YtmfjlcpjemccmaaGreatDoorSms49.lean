/- The small tree is shown as it should: walked. ShowShows and ShowSame: walked. From a contract 'it answers true and leaves all that there was' to what a law's row asks: arguments opened, read again, the frame. Arguments of a law, opened: a tree. Each lemma states its own conditions. -/
import Derived.Test.YtmfjlcpjemccmaaGreatDoorSms47
import Derived.Test.YtmfjlcpjemccmaaGreatDoorSms48
import Derived.Test.YtmfjlcpjemccmaaGreatDoorSms43
import Derived.Test.YtmfjlcpjemccmaaGreatDoorSms41
import Derived.Test.YtmfjlcpjemccmaaGreatDoorSms34
import Derived.Test.YtmfjlcpjemccmaaGreatDoorSms01
import Derived.ProofKit
import Derived.SizedLaws
import Derived.Deep.Slices
import Derived.OpenShut
import Derived.Test.YtmfjlcpjemccmaaGreatDoorRows
namespace Go.Proofs.YtmfjlcpjemccmaaGreatDoor
open Go.RowKit
def smallB : ByteArray := ⟨#[102, 117, 110, 99, 32, 102, 40, 97, 41, 32, 123, 10, 32, 32, 114, 101, 116, 117, 114, 110, 32, 40, 97, 32, 43, 32, 49, 41, 59, 10, 125, 10, 109, 97, 105, 110, 32, 123, 10, 32, 32, 118, 97, 114, 32, 120, 59, 10, 32, 32, 120, 32, 61, 32, 102, 40, 50, 41, 59, 10, 32, 32, 112, 114, 105, 110, 116, 32, 120, 59, 10, 125, 10]⟩
def smallT : List TF := (treeD (scanOf smallB).1 smallB.size).1
theorem small_parse : parseD smallB = (smallT, 0, 0) := by
 unfold parseD
 rw [if_pos (show (scanOf smallB).2.2 = 0 by decide +kernel), if_neg (by decide +kernel), if_pos (by decide +kernel)]
 rfl
theorem small_err : errT smallT = 0 := by decide +kernel
theorem small_text : textFs smallT = smallB := by decide +kernel
theorem small_show : showT smallT = smallB := by
 unfold showT
 rw [if_pos small_err, small_text]
theorem rl_tree {o : Oper} {ρ : Operand → Value} {W : World} {x : Operand} {b f : Nat} {v : Value} (ho : o.op = .load 24 x) (hx : ρ x = .pointer (some ⟨b, f, none⟩)) (hc : W.cell? ⟨b, f, none⟩ = some v) : (execOp ρ o).run Tryz.prog W = .ok (.value (.agg #[v])) W := by
 simp [execOp, ho, hx, hc, go_sem]
set_option maxRecDepth 20000 in
set_option maxHeartbeats 4000000 in
theorem showBegun_any (w : World) (ht : Tab w) : Calls Tryz.prog 16 #[] w fun r w' => r = .returned (.bool true) ∧ Bel w w' := by
 have HPR := Hi_ (parseOf_ref smallB w (by decide))
 have HTB := Hi_ ht
 rw [small_parse] at HPR
 clear ht
 go_enter Tryz.func16, Tryz.ntmps16
 go_wp2_with fail
 refine HPR.out.mono ?_
 rintro r w1 ⟨v, rfl, hsl, hb⟩
 have hsl2 := low_up tfR_more hsl
 have HX := Hi_ hb
 have HSH := Hi_ (fun W (hb : Bel w1 W) (ht : Tab W) => show_any smallT v W (hsl2.keep hb) ht)
 have HS1 := Hi_ (fun W (hb : Bel w1 W) => sameT_any smallT smallT v v W (hsl2.keep hb) (hsl2.keep hb))
 have HS2 := Hi_ (fun W (hb : Bel w1 W) => sameT_any smallT [] v (.slice none 0 0) W (hsl2.keep hb) (Sl.nil_ _ _))
 rw [small_show, small_err] at HSH
 rw [sameFs_rfl] at HS1
 rw [sameFs_len (by decide +kernel)] at HS2
 obtain ⟨A, c, rfl, -⟩ := hsl2
 clear hsl hb HPR
 go_upto_region 2 with fail
 have HK := Hi_ (Blk.new w1 24 #[.slice A smallT.length c])
 have HY := Hi_ ((Bel.rfl_ w1).al (.cells #[.slice A smallT.length c] 24))
 generalize w1.alloc (.cells #[.slice A smallT.length c] 24) = W2 at *
 generalize w1.heap.size = K at *
 have c0 := HK.out.cell (i := 0) (v := .slice A smallT.length c) rfl
 go_wp2_with fail
 refine (HSH.out _ HY.out (HTB.out.keep (HX.out.tr HY.out))).mono ?_
 rintro r W3 ⟨rfl, hb⟩
 replace HY := Hi_ (HY.out.tr hb)
 replace HK := Hi_ (HK.out.keep hb)
 clear hb c0 HSH
 obtain ⟨HZ, hZ⟩ : ∃ HZ : Hid (Bel w w1), HZ = HX := ⟨HX, rfl⟩
 clear hZ HX
 have HX := HY
 clear HY
 go_upto_region 3 with fail
 refine wl_region ?_
 try dsimp only [List.append]
 refine wl_k (some 16) (.int .i64 0) ?_
 refine wl_c 3 17 [.bool true, .bool true, .int .i64 0] ?_
 refine wl_c 4 20 [.bool true, .bool true, .bool true, .string smallB] ?_
 refine wl_e (some 24) (.bool true) (rb_eqlS (s := smallB) (u := smallB) rfl (by kernel_rfl) (by kernel_rfl) (str_true rfl)) ?_
 refine wl_c 2 25 [.bool true, .bool true] ?_
 refine wl_e (some 27) (.agg #[.slice A smallT.length c]) (rl_tree rfl (by kernel_rfl) (HK.out.cell (i := 0) rfl)) ?_
 refine wl_e (some 28) (.agg #[.slice A smallT.length c]) (rl_tree rfl (by kernel_rfl) (HK.out.cell (i := 0) rfl)) ?_
 refine wl_cl (some 29) 17 #[.agg #[.slice A smallT.length c], .agg #[.slice A smallT.length c]] (HS1.out _ HX.out) ?_
 rintro r W6 ⟨rfl, hb⟩
 replace HX := Hi_ (HX.out.tr hb)
 replace HK := Hi_ (HK.out.keep hb)
 clear hb
 refine ⟨_, rfl, ?_⟩
 refine wl_c 2 30 [.bool true, .bool true] ?_
 refine wl_e (some 32) (.agg #[.slice A smallT.length c]) (rl_tree rfl (by kernel_rfl) (HK.out.cell (i := 0) rfl)) ?_
 refine wl_k (some 33) (.agg #[.slice none 0 0]) ?_
 refine wl_cl (some 34) 17 #[.agg #[.slice A smallT.length c], .agg #[.slice none 0 0]] (HS2.out _ HX.out) ?_
 rintro r W7 ⟨rfl, hb⟩
 replace HX := Hi_ (HX.out.tr hb)
 replace HK := Hi_ (HK.out.keep hb)
 clear hb
 refine ⟨_, rfl, ?_⟩
 refine wl_c 2 35 [.bool true, .bool true] ?_
 refine wl_k (some 0) (.bool true) ?_
 refine wl_nil ?_
 try simp only [sP, Act.put, lA, lB, lC]
 go_wp2
 go_ret
 exact ⟨rfl, HZ.out.tr HX.out⟩
theorem rb_eqlB {o : Oper} {ρ : Operand → Value} {W : World} {x y : Operand} {t2 : TypeId} {k l c : Bool} (ho : o.op = .binOp .eql 4 x y t2) (hx : ρ x = .bool k) (hy : ρ y = .bool l) (hc : (k == l) = c) : (execOp ρ o).run Tryz.prog W = .ok (.value (.bool c)) W := by
 subst hc
 simp [execOp, ho, hx, hy, go_sem]
set_option maxRecDepth 20000 in
set_option maxHeartbeats 4000000 in
theorem shSame_any (l m : List TF) (u v : Value) (w : World) (h : Sl tfR w u l) (h2 : Sl tfR w v m) (ht : Tab w) :
  Calls Tryz.prog 4 #[.agg #[u], .agg #[v]] w fun r w' => r = .returned (.bool true) ∧ Bel w w' := by
 have HTB := Hi_ ht
 have HR1 := Hi_ (fun W (hb : Bel w W) => sameT_any l m u v W (h.keep hb) (h2.keep hb))
 have HR2 := Hi_ (fun W (hb : Bel w W) => sameTree_any false l m u v W (h.keep hb) (h2.keep hb))
 have HR3 := Hi_ (fun W (hb : Bel w W) => sameT_any l l u u W (h.keep hb) (h.keep hb))
 rw [sameFs_rfl] at HR3
 obtain ⟨A, c, rfl, -⟩ := h
 obtain ⟨B, d, rfl, -⟩ := h2
 generalize sameFs false l m = bs at *
 have HK1 := Hi_ ((Blk.new w 24 #[.slice A l.length c]).keep ((Bel.rfl_ _).al (.cells #[.slice B m.length d] 24)))
 have HK2 := Hi_ (Blk.new (w.alloc (.cells #[.slice A l.length c] 24)) 24 #[.slice B m.length d])
 rw [alloc_size] at HK2
 have HX := Hi_ (((Bel.rfl_ w).al (.cells #[.slice A l.length c] 24)).al (.cells #[.slice B m.length d] 24))
 clear ht
 go_enter Tryz.func4, Tryz.ntmps4
 go_upto_region 1 with fail
 generalize (w.alloc (.cells #[.slice A l.length c] 24)).alloc (.cells #[.slice B m.length d] 24) = WB at *
 generalize w.heap.size + 1 = G2 at *
 generalize w.heap.size = G1 at *
 refine wp_region_held_drew (S := fun W => Bel WB W) (by kernel_rfl) ((Bel.rfl_ WB).dr) (fun hS => ?_)
 refine rt_call (i := 0) (some 5) (by kernel_rfl) rfl rfl (by kernel_rfl) 16 #[] (by kernel_rfl) (showBegun_any _ (HTB.out.keep (HX.out.tr hS))) ?_
 rintro e W' ⟨rfl, hb⟩
 refine ⟨_, rfl, hS.tr hb, fun hS => ?_⟩
 refine rt_t (i := 1) (some 6) (.bool true) rfl hS (fun W _ => by kernel_rfl) ?_
 refine rt_t (i := 2) (some 7) (.agg #[.slice A l.length c]) rfl hS (fun W hb => rl_tree rfl (by kernel_rfl) ((HK1.out.keep hb).cell (i := 0) rfl)) ?_
 refine rt_t (i := 3) (some 8) (.agg #[.slice B m.length d]) rfl hS (fun W hb => rl_tree rfl (by kernel_rfl) ((HK2.out.keep hb).cell (i := 0) rfl)) ?_
 refine rt_t (i := 5) (some 10) (.agg #[.slice A l.length c]) rfl hS (fun W hb => rl_tree rfl (by kernel_rfl) ((HK1.out.keep hb).cell (i := 0) rfl)) ?_
 refine rt_t (i := 6) (some 11) (.agg #[.slice B m.length d]) rfl hS (fun W hb => rl_tree rfl (by kernel_rfl) ((HK2.out.keep hb).cell (i := 0) rfl)) ?_
 refine rt_call (i := 4) (some 9) (by kernel_rfl) rfl rfl (by kernel_rfl) 17 #[.agg #[.slice A l.length c], .agg #[.slice B m.length d]] (by kernel_rfl) (HR1.out _ (HX.out.tr hS)) ?_
 rintro e W' ⟨rfl, hb⟩
 refine ⟨_, rfl, hS.tr hb, fun hS => ?_⟩
 refine rt_call (i := 7) (some 12) (by kernel_rfl) rfl rfl (by kernel_rfl) 18 #[.agg #[.slice A l.length c], .agg #[.slice B m.length d], .bool false] (by kernel_rfl) (HR2.out _ (HX.out.tr hS)) ?_
 rintro e W' ⟨rfl, hb⟩
 refine ⟨_, rfl, hS.tr hb, fun hS => ?_⟩
 refine rt_t (i := 8) (some 13) (.bool true) rfl hS (fun W _ => rb_eqlB (k := bs) (l := bs) rfl (by kernel_rfl) (by kernel_rfl) (by cases bs <;> rfl)) ?_
 refine rt_t (i := 9) (some 14) (.bool true) rfl hS (fun W _ => by kernel_rfl) ?_
 refine rt_t (i := 10) (some 15) (.bool true) rfl hS (fun W _ => by kernel_rfl) ?_
 refine rt_t (i := 11) (some 16) (.agg #[.slice A l.length c]) rfl hS (fun W hb => rl_tree rfl (by kernel_rfl) ((HK1.out.keep hb).cell (i := 0) rfl)) ?_
 refine rt_t (i := 12) (some 17) (.agg #[.slice A l.length c]) rfl hS (fun W hb => rl_tree rfl (by kernel_rfl) ((HK1.out.keep hb).cell (i := 0) rfl)) ?_
 refine rt_call (i := 13) (some 18) (by kernel_rfl) rfl rfl (by kernel_rfl) 17 #[.agg #[.slice A l.length c], .agg #[.slice A l.length c]] (by kernel_rfl) (HR3.out _ (HX.out.tr hS)) ?_
 rintro e W' ⟨rfl, hb⟩
 refine ⟨_, rfl, hS.tr hb, fun hS => ?_⟩
 refine rt_t (i := 14) (some 19) (.bool true) rfl hS (fun W _ => by kernel_rfl) ?_
 refine rt_t (i := 15) (some 4) (.bool true) rfl hS (fun W _ => by kernel_rfl) ?_
 refine wpAnyH_done (by kernel_rfl) ?_ _
 try simp only [Act.put, lA, lB, lC]
 go_wp2
 go_ret
 exact ⟨rfl, HX.out.tr hS⟩
end Go.Proofs.YtmfjlcpjemccmaaGreatDoor
namespace Go.Proofs.YtmfjlcpjemccmaaGreatDoor
open Go.ChangeShapes Go.WideShapes Go.ChangeAt Go.RowKit
section
variable {H : Type} {enc : TypeId × Value → H} {P : Program}
theorem trodAll_stays (hl : laidOutB P = true) {W W' : World} (hb : Bel W W') : ∀ {ts : List TypeId} {vs : List Value} {ds : List (DataW H)} {ps : List MemPlace}, (∀ t ∈ ts, P.readableRec t = true ∧ t < P.types.size) →
  DataW.TrodAll enc P W 0 (fun _ => true) true ts vs ds ps → (∀ x ∈ ps, x.block < W.heap.size) → DataW.TrodAll enc P W' 0 (fun b => decide (b < W.heap.size)) true ts vs ds ps
 | [], vs, ds, ps, _, h, _ => by
  obtain ⟨rfl, rfl, rfl⟩ := trodAll_nil h
  exact trodAll_mk0
 | t :: ts, vs, ds, ps, ht, h, hlt => by
  obtain ⟨v, vs', d, ds', p, p', rfl, rfl, rfl, h0, h1⟩ := trodAll_cons h
  obtain ⟨hr, hrow⟩ := ht t (by simp)
  exact trodAll_cons_mk (Below.trod hl hr hrow h0 hb (fun x hx => hlt x (by simp [hx]))) (trodAll_stays hl hb (fun t h => ht t (by simp [h])) h1 (fun x hx => hlt x (by simp [hx])))
/-- A LAW's ROW: it answers true; the arguments read as they did. -/
theorem law_post {fn : Func} {s : ChangeSpec} {tb : TypeId} (hv : s.vars = []) (hrt : fn.resultTypes = #[tb]) (htb : P.underlying tb = some .bool) (hl : laidOutB P = true) (hp : ∀ t ∈ fn.params.toList, P.readableRec t = true ∧ t < P.types.size)
  {W W' : World} {args : Array Value} {ds gs : List (DataW H)} {before : List MemPlace} (hW : DataW.Whole enc P fn.params.toList s.vars false W args.toList ds gs before)
  (hs : s.fn H (ds ++ gs) = { results := [.lit (.bool true)], args := ds }) (hb : Bel W W') : s.post enc P fn false true false false W args (.bool true) W' := by
 have hW' := hW
 obtain ⟨p, q, hA, hV, rfl, _, _⟩ := hW
 rw [hv] at hV
 obtain ⟨rfl, rfl⟩ := trodVars_none hV
 have hlt : ∀ x ∈ p, x.block < W.heap.size := fun x hx => hW'.lt x (by simp [hx])
 refine ⟨ds, [], p ++ [], [], p, [], hW', ?_, ?_, ?_, hb.frame _, fun h => by cases h⟩
 ·rw [hs, hrt]
  have e : (Value.bool true).resultList (#[tb].size) = [Value.bool true] := rfl
  rw [e]
  exact trodAll_mk1 (shut_bool htb _)
 ·rw [hs]
  exact trodAll_stays hl hb hp hA hlt
 ·rw [hs, hv]
  rfl
theorem cells_lit {w : World} {a : Addr} {n : Nat} {cs : List Value} (h : ∀ i, i < n → w.cell? (a.add i) = cs[i]?) (hl : cs.length = n) (hn : 0 < n) : a.spot = none := by
 have h0 := h 0 hn
 have : cs[0]? = some (cs[0]'(by omega)) := List.getElem?_eq_getElem (by omega)
 rw [this] at h0
 simpa [Addr.add] using World.cell?_spot h0
end
end Go.Proofs.YtmfjlcpjemccmaaGreatDoor
namespace Go.Proofs.YtmfjlcpjemccmaaGreatDoor
open Go.ChangeShapes Go.WideShapes Go.ChangeAt Go.RowKit
theorem ownK : ownKnob Tryz.prog.godebug = none := by kernel_rfl
theorem laidOutK : laidOutB Tryz.prog = true := by kernel_rfl
section
variable {H : Type} {enc : TypeId × Value → H} {P : Program} {W : World}
/-- a slice whose elements open with less fuel -/
theorem open_slF {α : Type} {r : Rep α} {t e : TypeId} (ht : P.underlying t = some (.slice e)) (hC : P.cellsOf e = r.size) (h0 : 0 < r.size) {fuel : Nat}
  (hel : ∀ m, m < fuel → ∀ (cs : List Value) (y : DataW H × List MemPlace), cs.length = r.size → DataW.trod enc P W 0 (fun _ => true) true m e cs = some y → ∃ x, r.R W cs x)
  {cs : List Value} {x : DataW H × List MemPlace} (h : DataW.trod enc P W 0 (fun _ => true) true fuel t cs = some x) : ∃ v xs, cs = [v] ∧ Sl r W v xs := by
 rcases DataW.trod_slice ht h with ⟨hc, _⟩ | ⟨a, len, cap, elems, rest, m, hm, hc, _, _, hlc, hcm, hel2, hei, _, _⟩
 ·exact ⟨.slice none 0 0, [], hc, Sl.nil_ _ _⟩
 ·have hx : ∀ i, i < len → ∃ x cs', r.R W cs' x ∧ ∀ j, j < r.size → W.cell? ((a.add (i * r.size)).add j) = cs'[j]? := fun i hi => by
   have h5 := hei i hi
   rw [hC, List.getElem?_eq_getElem (by omega)] at h5
   obtain ⟨cs', hcs, htr⟩ := Option.bind_eq_some_iff.1 h5
   obtain ⟨_, hl, hcell⟩ := World.cells?_some hcs
   obtain ⟨x, hq⟩ := hel m (by omega) cs' _ hl htr
   exact ⟨x, cs', hq, hcell⟩
  refine ⟨.slice (some a) len cap, (List.range len).pmap (fun i hi' => Classical.choose (hx i hi')) (fun i hi' => List.mem_range.1 hi'), hc, ⟨some a, cap, by simp, by simpa using hlc, ⟨hcm, fun h => by cases h⟩, fun hp => ?_⟩⟩
  have hs : a.spot = none := by
   obtain ⟨x, cs', hq, hcell⟩ := hx 0 (by simpa using hp)
   refine cells_lit (w := W) (n := r.size) (cs := cs') (fun i hi' => ?_) (r.len hq) h0
   have := hcell i hi'
   simpa [Addr.add] using this
  obtain ⟨b, o, sp⟩ := a
  simp only at hs
  subst hs
  refine ⟨b, o, rfl, fun k x hk => ?_⟩
  rw [List.getElem?_pmap] at hk
  have hk2 : k < len := by
   rcases Nat.lt_or_ge k len with h | h
   ·exact h
   ·simp [h] at hk
  simp only [List.getElem?_range hk2, Option.pmap_some, Option.some.injEq] at hk
  obtain ⟨cs', hq, hcell⟩ := Classical.choose_spec (hx k hk2)
  rw [hk] at hq
  refine ⟨cs', hq, fun j u hu => ?_⟩
  have hj : j < r.size := by
   have := (List.getElem?_eq_some_iff.1 hu).1
   have h6 := r.len hq
   omega
  have h1 := hcell j hj
  rw [hu] at h1
  have e1 : ((⟨b, o, none⟩ : Addr).add (k * r.size)).add j = ⟨b, o + k * r.size + j, none⟩ := by
   unfold Addr.add
   by_cases hk0 : k * r.size = 0 <;> by_cases hj0 : j = 0 <;> simp [hk0, hj0]
  rw [e1] at h1
  exact h1
/-- the fields of a struct -/
theorem open_struct {fs : Array Field} {t : TypeId} {fuel : Nat} {cs : List Value} {y : DataW H × List MemPlace} (ht : P.underlying t = some (.struct fs)) (h : DataW.trod enc P W 0 (fun _ => true) true fuel t cs = some y) :
  cs.length = P.cellsOf t ∧ ∃ n, n < fuel ∧ ∀ (i : Nat) (f : Field), fs[i]? = some f → ∃ y', DataW.trod enc P W 0 (fun _ => true) true n f.type ((cs.drop f.offset).take (P.cellsOf f.type)) = some y' := by
 obtain ⟨xs, n, rfl, _, hlen, hxl, hg⟩ := DataW.trod_struct ht h
 refine ⟨hlen, n, by omega, fun i f hf => ?_⟩
 have h1 := hg i f hf
 have hi : i < xs.length := by
  rw [hxl]
  exact (Array.getElem?_eq_some_iff.1 hf).1
 rw [List.getElem?_eq_getElem hi] at h1
 exact ⟨_, h1⟩
end
theorem cI : Tryz.prog.cellsOf 3 = 1 := by kernel_rfl
theorem cS : Tryz.prog.cellsOf 9 = 1 := by kernel_rfl
theorem cEs : Tryz.prog.cellsOf 47 = 1 := by kernel_rfl
theorem cCs : Tryz.prog.cellsOf 46 = 1 := by kernel_rfl
theorem cVs : Tryz.prog.cellsOf 45 = 1 := by kernel_rfl
theorem cSs : Tryz.prog.cellsOf 44 = 1 := by kernel_rfl
theorem cFs : Tryz.prog.cellsOf 22 = 1 := by kernel_rfl
theorem cE : Tryz.prog.cellsOf 49 = 5 := by kernel_rfl
theorem cC : Tryz.prog.cellsOf 53 = 17 := by kernel_rfl
theorem cV : Tryz.prog.cellsOf 55 = 2 := by kernel_rfl
theorem cF : Tryz.prog.cellsOf 51 = 10 := by kernel_rfl
theorem cT : Tryz.prog.cellsOf 24 = 1 := by kernel_rfl
section
variable {H : Type} {enc : TypeId × Value → H} {W : World}
set_option maxRecDepth 100000 in
theorem open_te : ∀ (fuel : Nat) (cs : List Value) (y : DataW H × List MemPlace), DataW.trod enc Tryz.prog W 0 (fun _ => true) true fuel 49 cs = some y → ∃ q, TER W q cs := by
 intro fuel
 induction fuel using Nat.strongRecOn with
 | _ fuel ih =>
  intro cs y h
  obtain ⟨hl, n, hn, hg⟩ := open_struct Tryz.underlying49 h
  rw [cE] at hl
  have h0 : ∃ y', DataW.trod enc Tryz.prog W 0 (fun _ => true) true n 3 ((cs.drop 0).take (Tryz.prog.cellsOf 3)) = some y' := hg 0 _ rfl
  rw [cI] at h0
  obtain ⟨y0, h0⟩ := h0
  have h1 : ∃ y', DataW.trod enc Tryz.prog W 0 (fun _ => true) true n 3 ((cs.drop 1).take (Tryz.prog.cellsOf 3)) = some y' := hg 1 _ rfl
  rw [cI] at h1
  obtain ⟨y1, h1⟩ := h1
  have h2 : ∃ y', DataW.trod enc Tryz.prog W 0 (fun _ => true) true n 3 ((cs.drop 2).take (Tryz.prog.cellsOf 3)) = some y' := hg 2 _ rfl
  rw [cI] at h2
  obtain ⟨y2, h2⟩ := h2
  have h3 : ∃ y', DataW.trod enc Tryz.prog W 0 (fun _ => true) true n 9 ((cs.drop 3).take (Tryz.prog.cellsOf 9)) = some y' := hg 3 _ rfl
  rw [cS] at h3
  obtain ⟨y3, h3⟩ := h3
  have h4 : ∃ y', DataW.trod enc Tryz.prog W 0 (fun _ => true) true n 47 ((cs.drop 4).take (Tryz.prog.cellsOf 47)) = some y' := hg 4 _ rfl
  rw [cEs] at h4
  obtain ⟨y4, h4⟩ := h4
  match cs, hl with
  | [c0, c1, c2, c3, c4], _ =>
   obtain ⟨k0, e0, -, -⟩ := DataW.trod_int Tryz.underlying3 h0
   obtain ⟨k1, e1, -, -⟩ := DataW.trod_int Tryz.underlying3 h1
   obtain ⟨k2, e2, -, -⟩ := DataW.trod_int Tryz.underlying3 h2
   obtain ⟨s, e3, -, hs⟩ := DataW.trod_string Tryz.underlying9 h3
   obtain ⟨v, xs, e4, hsl⟩ := open_slF (r := teR) Tryz.underlying47 cE (by decide) (fun m hm cs y _ h => ih m (by omega) cs y h) h4
   have f0 : c0 = .int .i64 k0 := by simpa using e0
   have f1 : c1 = .int .i64 k1 := by simpa using e1
   have f2 : c2 = .int .i64 k2 := by simpa using e2
   have f3 : c3 = .string s := by simpa using e3
   have f4 : c4 = v := by simpa using e4
   subst f0 f1 f2 f3 f4
   exact ⟨.mk k0 k1 k2 s xs, TER.shut hs hsl⟩
set_option maxRecDepth 100000 in
theorem open_tv (fuel : Nat) (cs : List Value) (y : DataW H × List MemPlace) (h : DataW.trod enc Tryz.prog W 0 (fun _ => true) true fuel 55 cs = some y) : ∃ q, tvR.R W cs q := by
 obtain ⟨hl, n, hn, hg⟩ := open_struct Tryz.underlying55 h
 rw [cV] at hl
 have h0 : ∃ y', DataW.trod enc Tryz.prog W 0 (fun _ => true) true n 9 ((cs.drop 0).take (Tryz.prog.cellsOf 9)) = some y' := hg 0 _ rfl
 rw [cS] at h0
 obtain ⟨y0, h0⟩ := h0
 have h1 : ∃ y', DataW.trod enc Tryz.prog W 0 (fun _ => true) true n 3 ((cs.drop 1).take (Tryz.prog.cellsOf 3)) = some y' := hg 1 _ rfl
 rw [cI] at h1
 obtain ⟨y1, h1⟩ := h1
 match cs, hl with
 | [c0, c1], _ =>
  obtain ⟨s, e0, -, hs⟩ := DataW.trod_string Tryz.underlying9 h0
  obtain ⟨k1, e1, -, -⟩ := DataW.trod_int Tryz.underlying3 h1
  have f0 : c0 = .string s := by simpa using e0
  have f1 : c1 = .int .i64 k1 := by simpa using e1
  subst f0 f1
  exact ⟨⟨s, k1⟩, rfl, hs⟩
set_option maxRecDepth 100000 in
theorem open_tc : ∀ (fuel : Nat) (cs : List Value) (y : DataW H × List MemPlace), DataW.trod enc Tryz.prog W 0 (fun _ => true) true fuel 53 cs = some y → ∃ q, TCR W q cs := by
 intro fuel
 induction fuel using Nat.strongRecOn with
 | _ fuel ih =>
  intro cs y h
  obtain ⟨hl, n, hn, hg⟩ := open_struct Tryz.underlying53 h
  rw [cC] at hl
  have h0 : ∃ y', DataW.trod enc Tryz.prog W 0 (fun _ => true) true n 3 ((cs.drop 0).take (Tryz.prog.cellsOf 3)) = some y' := hg 0 _ rfl
  rw [cI] at h0
  obtain ⟨y0, h0⟩ := h0
  have h1 : ∃ y', DataW.trod enc Tryz.prog W 0 (fun _ => true) true n 3 ((cs.drop 1).take (Tryz.prog.cellsOf 3)) = some y' := hg 1 _ rfl
  rw [cI] at h1
  obtain ⟨y1, h1⟩ := h1
  have h2 : ∃ y', DataW.trod enc Tryz.prog W 0 (fun _ => true) true n 9 ((cs.drop 2).take (Tryz.prog.cellsOf 9)) = some y' := hg 2 _ rfl
  rw [cS] at h2
  obtain ⟨y2, h2⟩ := h2
  have h3 : ∃ y', DataW.trod enc Tryz.prog W 0 (fun _ => true) true n 9 ((cs.drop 3).take (Tryz.prog.cellsOf 9)) = some y' := hg 3 _ rfl
  rw [cS] at h3
  obtain ⟨y3, h3⟩ := h3
  have h4 : ∃ y', DataW.trod enc Tryz.prog W 0 (fun _ => true) true n 49 ((cs.drop 4).take (Tryz.prog.cellsOf 49)) = some y' := hg 4 _ rfl
  rw [cE] at h4
  obtain ⟨y4, h4⟩ := h4
  have h5 : ∃ y', DataW.trod enc Tryz.prog W 0 (fun _ => true) true n 49 ((cs.drop 9).take (Tryz.prog.cellsOf 49)) = some y' := hg 5 _ rfl
  rw [cE] at h5
  obtain ⟨y5, h5⟩ := h5
  have h6 : ∃ y', DataW.trod enc Tryz.prog W 0 (fun _ => true) true n 47 ((cs.drop 14).take (Tryz.prog.cellsOf 47)) = some y' := hg 6 _ rfl
  rw [cEs] at h6
  obtain ⟨y6, h6⟩ := h6
  have h7 : ∃ y', DataW.trod enc Tryz.prog W 0 (fun _ => true) true n 46 ((cs.drop 15).take (Tryz.prog.cellsOf 46)) = some y' := hg 7 _ rfl
  rw [cCs] at h7
  obtain ⟨y7, h7⟩ := h7
  have h8 : ∃ y', DataW.trod enc Tryz.prog W 0 (fun _ => true) true n 46 ((cs.drop 16).take (Tryz.prog.cellsOf 46)) = some y' := hg 8 _ rfl
  rw [cCs] at h8
  obtain ⟨y8, h8⟩ := h8
  match cs, hl with
  | [c0, c1, c2, c3, i0, i1, i2, i3, i4, x0, x1, x2, x3, x4, ca, ct, ce], _ =>
   obtain ⟨k0, e0, -, -⟩ := DataW.trod_int Tryz.underlying3 h0
   obtain ⟨k1, e1, -, -⟩ := DataW.trod_int Tryz.underlying3 h1
   obtain ⟨s, e2, -, hs⟩ := DataW.trod_string Tryz.underlying9 h2
   obtain ⟨t, e3, -, ht⟩ := DataW.trod_string Tryz.underlying9 h3
   obtain ⟨i, hi⟩ := open_te n _ _ h4
   obtain ⟨e, he⟩ := open_te n _ _ h5
   obtain ⟨va, args, e6, hsa⟩ := open_slF (r := teR) Tryz.underlying47 cE (by decide) (fun m hm cs y _ h => open_te m cs y h) h6
   obtain ⟨vt, thn, e7, hst⟩ := open_slF (r := tcR) Tryz.underlying46 cC (by decide) (fun m hm cs y _ h => ih m (by omega) cs y h) h7
   obtain ⟨vs, els, e8, hsl⟩ := open_slF (r := tcR) Tryz.underlying46 cC (by decide) (fun m hm cs y _ h => ih m (by omega) cs y h) h8
   have f0 : c0 = .int .i64 k0 := by simpa using e0
   have f1 : c1 = .int .i64 k1 := by simpa using e1
   have f2 : c2 = .string s := by simpa using e2
   have f3 : c3 = .string t := by simpa using e3
   have f6 : ca = va := by simpa using e6
   have f7 : ct = vt := by simpa using e7
   have f8 : ce = vs := by simpa using e8
   subst f0 f1 f2 f3 f6 f7 f8
   obtain ⟨ft, g1, g2⟩ := hst.frame
   obtain ⟨fe, g3, g4⟩ := hsl.frame
   exact ⟨.mk k0 k1 s t i e args thn els, .mk k0 k1 s t i e args thn els [i0, i1, i2, i3, i4] [x0, x1, x2, x3, x4] ca ct ce ft fe hs ht hi he hsa g1 g2 g3 g4⟩
set_option maxRecDepth 100000 in
theorem open_tf (fuel : Nat) (cs : List Value) (y : DataW H × List MemPlace) (h : DataW.trod enc Tryz.prog W 0 (fun _ => true) true fuel 51 cs = some y) : ∃ q, TFR W q cs := by
 obtain ⟨hl, n, hn, hg⟩ := open_struct Tryz.underlying51 h
 rw [cF] at hl
 have h0 : ∃ y', DataW.trod enc Tryz.prog W 0 (fun _ => true) true n 3 ((cs.drop 0).take (Tryz.prog.cellsOf 3)) = some y' := hg 0 _ rfl
 rw [cI] at h0
 obtain ⟨y0, h0⟩ := h0
 have h1 : ∃ y', DataW.trod enc Tryz.prog W 0 (fun _ => true) true n 9 ((cs.drop 1).take (Tryz.prog.cellsOf 9)) = some y' := hg 1 _ rfl
 rw [cS] at h1
 obtain ⟨y1, h1⟩ := h1
 have h2 : ∃ y', DataW.trod enc Tryz.prog W 0 (fun _ => true) true n 44 ((cs.drop 2).take (Tryz.prog.cellsOf 44)) = some y' := hg 2 _ rfl
 rw [cSs] at h2
 obtain ⟨y2, h2⟩ := h2
 have h3 : ∃ y', DataW.trod enc Tryz.prog W 0 (fun _ => true) true n 45 ((cs.drop 3).take (Tryz.prog.cellsOf 45)) = some y' := hg 3 _ rfl
 rw [cVs] at h3
 obtain ⟨y3, h3⟩ := h3
 have h4 : ∃ y', DataW.trod enc Tryz.prog W 0 (fun _ => true) true n 46 ((cs.drop 4).take (Tryz.prog.cellsOf 46)) = some y' := hg 4 _ rfl
 rw [cCs] at h4
 obtain ⟨y4, h4⟩ := h4
 have h5 : ∃ y', DataW.trod enc Tryz.prog W 0 (fun _ => true) true n 49 ((cs.drop 5).take (Tryz.prog.cellsOf 49)) = some y' := hg 5 _ rfl
 rw [cE] at h5
 obtain ⟨y5, h5⟩ := h5
 match cs, hl with
 | [c0, c1, cp, cv, cc, r0, r1, r2, r3, r4], _ =>
  obtain ⟨k0, e0, -, -⟩ := DataW.trod_int Tryz.underlying3 h0
  obtain ⟨s, e1, -, hs⟩ := DataW.trod_string Tryz.underlying9 h1
  obtain ⟨vp, params, e2, hsp⟩ := open_slF (r := nmR) Tryz.underlying44 cS (by decide) (fun m hm cs y _ h => by
   obtain ⟨u, hu, -, hus⟩ := DataW.trod_string Tryz.underlying9 h
   exact ⟨u, hu, hus⟩) h2
  obtain ⟨vv, vars, e3, hsv⟩ := open_slF (r := tvR) Tryz.underlying45 cV (by decide) (fun m hm cs y _ h => open_tv m cs y h) h3
  obtain ⟨vc, cmds, e4, hsc⟩ := open_slF (r := tcR) Tryz.underlying46 cC (by decide) (fun m hm cs y _ h => open_tc m cs y h) h4
  obtain ⟨e, he⟩ := open_te n _ _ h5
  have f0 : c0 = .int .i64 k0 := by simpa using e0
  have f1 : c1 = .string s := by simpa using e1
  have f2 : cp = vp := by simpa using e2
  have f3 : cv = vv := by simpa using e3
  have f4 : cc = vc := by simpa using e4
  subst f0 f1 f2 f3 f4
  obtain ⟨ek, ea, en, es, eargs⟩ := e
  obtain ⟨vr, hr, hrs, hsr⟩ := TER.opened he
  have hr2 : [r0, r1, r2, r3, r4] = [.int .i64 ek, .int .i64 ea, .int .i64 en, .string es, vr] := hr
  injection hr2 with g0 hr2
  injection hr2 with g1 hr2
  injection hr2 with g2 hr2
  injection hr2 with g3 hr2
  injection hr2 with g4 hr2
  subst g0 g1 g2 g3 g4
  exact ⟨⟨k0, s, params, vars, cmds, .mk ek ea en es eargs⟩, cp, cv, cc, r4, rfl, hs, hrs, hsp, hsv, hsc, hsr⟩
set_option maxRecDepth 100000 in
/-- an argument that is a tree -/
theorem open_tree {r : Reach} {base : Nat} {v : Value} {d : DataW H} {p : List MemPlace} (hv : Value.okWide Tryz.prog W r base 24 v)
  (h : DataW.Trod enc Tryz.prog W 0 (fun _ => true) true 24 v d p) : ∃ l u, v = .agg #[u] ∧ Sl tfR W u l := by
 obtain ⟨cs, rfl, _⟩ := okWide_struct Tryz.underlying24 hv
 obtain ⟨fuel, hf⟩ := h
 obtain ⟨hl, n, hn, hg⟩ := open_struct Tryz.underlying24 hf
 rw [cT] at hl
 have h0 : ∃ y', DataW.trod enc Tryz.prog W 0 (fun _ => true) true n 22 (((Value.agg cs).cells.toList.drop 0).take (Tryz.prog.cellsOf 22)) = some y' := hg 0 _ rfl
 rw [cFs] at h0
 obtain ⟨y0, h0⟩ := h0
 obtain ⟨u, l, e0, hsl⟩ := open_slF (r := tfR) Tryz.underlying22 cF (by decide) (fun m hm cs y _ h => open_tf m cs y h) h0
 refine ⟨l, u, ?_, hsl⟩
 have hc : (Value.agg cs).cells.toList = [u] := by
  have h1 : ((Value.agg cs).cells.toList.drop 0).take 1 = [u] := e0
  rw [List.drop_zero, List.take_of_length_le (by rw [hl]; exact Nat.le_refl _)] at h1
  exact h1
 have h2 : (Value.agg cs).cells = #[u] := by rw [← Array.toArray_toList (xs := (Value.agg cs).cells), hc]
 have h3 : cs = #[u] := h2
 rw [h3]
end
end Go.Proofs.YtmfjlcpjemccmaaGreatDoor
