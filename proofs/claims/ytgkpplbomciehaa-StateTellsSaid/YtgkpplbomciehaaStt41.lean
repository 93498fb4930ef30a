/- Whether two lists of frames are one: the references' loops hand back just that. Each lemma states its own conditions. -/
import Derived.Test.YtgkpplbomciehaaStt40
namespace Go.Proofs.Ytgkpplbomciehaa
set_option maxRecDepth 20000
set_option maxHeartbeats 4000000
open Go.RowKit
abbrev b9W:Rep (List Int):=Rep.slice b2l
instance:DecidableEq Fm:=fun a b=>decidable_of_iff (a.num=b.num∧a.fn=b.fn∧a.vars=b.vars) (by cases a;cases b;simp)
def frR:Rep Fm where
 size:=3
 R w cs f:=∃vv,cs=[.int .i64 f.num,.int .i64 f.fn,vv]∧Sl b9W w vv f.vars
 len h:=by obtain⟨_,rfl,_⟩:=h;rfl
 keep hb h:=by
  obtain⟨vv,h1,h2⟩:=h;exact⟨vv,h1,h2.keep hb⟩
theorem VarsG.sl{w:World}{lo:Nat}{v:Value}{vs:List (List Int)}{gs:List Nat}(h:VarsG w lo v vs gs):Sl b9W w v vs:=
 Sl.own (r:=b9W) h.row rfl fun k x hx=>by
  obtain⟨g,hg,-,hm,hb⟩:=h.get hx;refine⟨.slice (some ⟨g,0,none⟩) x.length x.length,?_,_,_,rfl,Nat.le_refl _,⟨hm,fun h=>by cases h⟩,fun _=>⟨g,0,rfl,fun j y hy=>⟨_,rfl,fun i u hu=>?_⟩⟩⟩
  ·show((heads gs vs).drop (k*1)).take 1=_;have h1:=b6m hg hx;obtain⟨hl,h2⟩:=List.getElem?_eq_some_iff.1 h1;rw[Nat.mul_one,List.drop_eq_getElem_cons hl,h2];rfl
  ·obtain rfl:i=0:=by
    cases i with
    | zero=>rfl
    | succ i=>simp at hu
   obtain rfl:Value.int .i64 y=u:=by simpa using hu
   refine hb.cell ?_;show(b0w x)[0+j*1+0]? = _;unfold b0w;rw[show 0+j*1+0=j by omega];simp[hy]
theorem c2V{w:World}{lo:Nat}{v:Value}{xs:List Fx}(h:w.ownsRow lo SFT 3 v xs.length (fxC xs))(hv:∀x∈xs,VarsG w lo x.vv x.f.vars x.gs):Sl frR w v (xs.map Fx.f):=
 Sl.own (r:=frR) h (by simp) fun k f hf=>by
  rw[List.getElem?_map] at hf;cases hx:xs[k]? with
  | none=>rw[hx] at hf;cases hf
  | some x =>
   rw[hx] at hf;obtain rfl:x.f=f:=by simpa using hf
   refine⟨x.vv,?_,(hv x (List.mem_of_getElem? hx)).sl⟩;show((fxC xs).drop (k*3)).take 3=x.cells;clear h hv hf;induction xs generalizing k with
   | nil=>simp at hx
   | cons y ys ih =>
    cases k with
    | zero =>
     obtain rfl:y=x:=by simpa using hx
     simp[fxC,Fx.cells]
    | succ k =>
     rw[show fxC (y::ys)=y.cells++fxC ys from rfl,show(k+1)*3=y.cells.length+k*3 by simp[Fx.cells];omega,List.drop_append];simp;rw[List.drop_eq_nil_of_le (by omega)]
     simpa using ih k (by simpa using hx)
section
variable {o:Oper}{ρ:Operand→Value}{W:World}{x y:Operand}{b f:Nat}{v:Value}
theorem c0i(ho:o.op=.load 24 x)(hx:ρ x=.pointer (some ⟨b,f,none⟩))(hc:W.cell? ⟨b,f,none⟩=some v):(execOp ρ o).run Try.prog W=.ok (.value v) W:=by
 simp[execOp,ho,hx,hc,go_sem]
theorem b9k{n m:Int}(ho:o.op=.binOp .neq 3 x y 3)(hx:ρ x=.int .i64 n)(hy:ρ y=.int .i64 m){r:Bool}(h:(n != m)=r):(execOp ρ o).run Try.prog W=.ok (.value (.bool r)) W:=by
 subst h;simp[execOp,ho,hx,hy,go_sem]
end
theorem b7m(v u:Value)(xs ys:List Int)(w:World)(hx:Sl b2l w v xs)(hy:Sl b2l w u ys) :
  Calls Try.prog 45 #[v,u] w fun r w'=>r=.returned (.bool (decide (xs=ys)))∧Bel w w':=by
 have HXS:=Lib.hid hx;have HYS:=Lib.hid hy;obtain⟨A,c,rfl,hlx⟩:=b0R hx;obtain⟨B,d,rfl,hly⟩:=b0R hy;clear hx hy;have HRF:=Lib.hid (Bel.rfl_ w);by_cases hl:xs.length=ys.length
 rotate_left
 ·have hlen:((xs.length:Int) != (ys.length:Int))=true:=by rw[bne_iff_ne];omega
  have HR:Hid (decide (xs=ys)=false):=Lib.hid (decide_eq_false fun h=>hl (by rw[h]));clear hl HXS HYS;go_enter Try.func45,Try.ntmps45;go_wp2;go_ret;exact⟨b1L HR.out.symm,HRF.out⟩
 have hlen:((xs.length:Int) != (ys.length:Int))=false:=by rw[hl];simp
 have HT0:Hid (xs.take 0=ys.take 0):=Lib.hid rfl;go_enter Try.func45,Try.ntmps45;go_wp2;go_loopw [5] (fun i wr=>∃k:Nat,k≤xs.length∧i=.int .i64 k∧Hid (xs.take k=ys.take k)∧Hid (Bel w wr)) (fun i _=>xs.length-(intOf i).toNat)
 case atStart=>exact⟨0,by omega,rfl,HT0,HRF⟩
 case round =>
  obtain⟨k,hk,rfl,ht,HB⟩:=hrel;obtain⟨WO,hWO⟩:∃W,W=wr:=⟨_,rfl⟩;subst hWO;clear HT0 HRF;by_cases hlt:k<xs.length
  rotate_left
  ·have hdd:decide ((k:Int)<xs.length)=false:=decide_eq_false (by omega)
   have HR:Hid (decide (xs=ys)=true):=Lib.hid (decide_eq_true (by
    have h1:=ht.out
    rwa [List.take_of_length_le (by omega),List.take_of_length_le (by omega)] at h1))
   clear ht HXS HYS;go_wp2;go_ret;exact⟨b1L HR.out.symm,HB.out⟩
  have hdd:decide ((k:Int)<xs.length)=true:=decide_eq_true (by omega);obtain⟨e,he⟩:∃e,xs[k]? = some e:=⟨_,List.getElem?_eq_getElem hlt⟩;obtain⟨f,hf⟩:∃e,ys[k]? = some e:=⟨_,List.getElem?_eq_getElem (by omega)⟩;have HN:Hid ((e=f→xs.take (k+1)=ys.take (k+1))∧(e≠f→decide (xs=ys)=false)):=Lib.hid ⟨fun h=>b2M he hf ht.out h,fun h=>decide_eq_false (b3H he hf h)⟩;have i0:(0:Int)≤k:=by omega
  have i1:(k:Int)<xs.length:=by omega
  have i2:(k:Int)<ys.length:=by omega
  obtain⟨ab,ao,cs,rfl,hcs,hca⟩:=HXS.out.elem he;obtain⟨bb,bo,ds,rfl,hds,hda⟩:=HYS.out.elem hf;obtain rfl:cs=[.int .i64 e]:=hcs;obtain rfl:ds=[.int .i64 f]:=hds;have C1:WO.cell? ⟨ab,ao+k,none⟩=some (.int .i64 e):=HB.out.cell (by have:=hca 0 _ rfl;rwa [show ao+k*b2l.size+0=ao+k by show ao+k*1+0=_;omega] at this);have C2:WO.cell? ⟨bb,bo+k,none⟩=some (.int .i64 f):=HB.out.cell (by have:=hda 0 _ rfl;rwa [show bo+k*b2l.size+0=bo+k by show bo+k*1+0=_;omega] at this);clear he hf hca hda ht HXS HYS;obtain⟨sm,hsm⟩:∃b:Bool,(e != f)=b:=⟨_,rfl⟩;go_upto_region 6 with fail;refine wp_region_held_drew (S:=fun W=>Bel WO W) (by kernel_rfl) ((Bel.rfl_ WO).dr) (fun hS=>?_);refine b0A (i:=0) (some 17) (.slice (some ⟨ab,ao,none⟩) xs.length c) rfl hS (fun W _=>by kernel_rfl) ?_;refine b0A (i:=1) (some 18) (.int .i64 k) rfl hS (fun W _=>by kernel_rfl) ?_;refine b0A (i:=2) (some 19) (.pointer (some ⟨ab,ao+k,none⟩)) rfl hS (fun W _=>by go_simp) ?_;refine b0A (i:=3) (some 20) (.int .i64 e) rfl hS (fun W hb=>b0I (hb.cell C1)) ?_;refine b0A (i:=4) (some 21) (.slice (some ⟨bb,bo,none⟩) ys.length d) rfl hS (fun W _=>by kernel_rfl) ?_;refine b0A (i:=5) (some 22) (.int .i64 k) rfl hS (fun W _=>by kernel_rfl) ?_;refine b0A (i:=6) (some 23) (.pointer (some ⟨bb,bo+k,none⟩)) rfl hS (fun W _=>by go_simp) ?_;refine b0A (i:=7) (some 24) (.int .i64 f) rfl hS (fun W hb=>b0I (hb.cell C2)) ?_;refine b0A (i:=8) (some 25) (.bool sm) rfl hS (fun W _=>b9k rfl (by kernel_rfl) (by kernel_rfl) hsm) ?_;refine wpAnyH_done (by kernel_rfl) ?_ _;try simp only[Act.put,List.setIfInBounds_toArray,List.set_cons_zero,List.set_cons_succ]
  replace HB:=Lib.hid (HB.out.tr hS);clear hS;cases sm with
  | false =>
   have HR:=Lib.hid (HN.out.1 (by simpa using hsm));go_wp2;go_roundw
   case rel=>exact⟨k+1,by omega,by go_num,HR,HB⟩
   case measure=>simp[intOf];omega
  | true =>
   have HR:=Lib.hid (HN.out.2 (by simpa using hsm));go_wp2;go_ret;exact⟨b1L HR.out.symm,HB.out⟩
theorem b7F(v u:Value)(xs ys:List (List Int))(w:World)(hx:Sl b9W w v xs)(hy:Sl b9W w u ys) :
  Calls Try.prog 84 #[v,u] w fun r w'=>r=.returned (.bool (decide (xs=ys)))∧Bel w w':=by
 have HXS:=Lib.hid hx;have HYS:=Lib.hid hy;obtain⟨A,c,rfl,hlx⟩:=b0R hx;obtain⟨B,d,rfl,hly⟩:=b0R hy;clear hx hy;have HRF:=Lib.hid (Bel.rfl_ w);by_cases hl:xs.length=ys.length
 rotate_left
 ·have hlen:((xs.length:Int) != (ys.length:Int))=true:=by rw[bne_iff_ne];omega
  have HR:Hid (decide (xs=ys)=false):=Lib.hid (decide_eq_false fun h=>hl (by rw[h]));clear hl HXS HYS;go_enter Try.func84,Try.ntmps84;go_wp2;go_ret;exact⟨b1L HR.out.symm,HRF.out⟩
 have hlen:((xs.length:Int) != (ys.length:Int))=false:=by rw[hl];simp
 have HT0:Hid (xs.take 0=ys.take 0):=Lib.hid rfl;go_enter Try.func84,Try.ntmps84;go_wp2;go_loopw [5] (fun i wr=>∃k:Nat,k≤xs.length∧i=.int .i64 k∧Hid (xs.take k=ys.take k)∧Hid (Bel w wr)) (fun i _=>xs.length-(intOf i).toNat)
 case atStart=>exact⟨0,by omega,rfl,HT0,HRF⟩
 case round =>
  obtain⟨k,hk,rfl,ht,HB⟩:=hrel;obtain⟨WO,hWO⟩:∃W,W=wr:=⟨_,rfl⟩;subst hWO;clear HT0 HRF;by_cases hlt:k<xs.length
  rotate_left
  ·have hdd:decide ((k:Int)<xs.length)=false:=decide_eq_false (by omega)
   have HR:Hid (decide (xs=ys)=true):=Lib.hid (decide_eq_true (by
    have h1:=ht.out
    rwa [List.take_of_length_le (by omega),List.take_of_length_le (by omega)] at h1))
   clear ht HXS HYS;go_wp2;go_ret;exact⟨b1L HR.out.symm,HB.out⟩
  have hdd:decide ((k:Int)<xs.length)=true:=decide_eq_true (by omega);obtain⟨e,he⟩:∃e,xs[k]? = some e:=⟨_,List.getElem?_eq_getElem hlt⟩;obtain⟨f,hf⟩:∃e,ys[k]? = some e:=⟨_,List.getElem?_eq_getElem (by omega)⟩;have HN:Hid ((e=f→xs.take (k+1)=ys.take (k+1))∧(e≠f→decide (xs=ys)=false)):=Lib.hid ⟨fun h=>b2M he hf ht.out h,fun h=>decide_eq_false (b3H he hf h)⟩;have i0:(0:Int)≤k:=by omega
  have i1:(k:Int)<xs.length:=by omega
  have i2:(k:Int)<ys.length:=by omega
  obtain⟨ab,ao,cs,rfl,hcs,hca⟩:=HXS.out.elem he;obtain⟨bb,bo,ds,rfl,hds,hda⟩:=HYS.out.elem hf;obtain⟨v1,rfl,hs1⟩:=hcs;obtain⟨v2,rfl,hs2⟩:=hds;have HSI:=Lib.hid (fun W (h:Bel w W)=>b7m _ _ e f W (hs1.keep h) (hs2.keep h));obtain⟨A1,c1,rfl,-⟩:=b0R hs1;obtain⟨A2,c2,rfl,-⟩:=b0R hs2;have C1:WO.cell? ⟨ab,ao+k,none⟩=some (.slice A1 e.length c1):=HB.out.cell (by have:=hca 0 _ rfl;rwa [show ao+k*b9W.size+0=ao+k by show ao+k*1+0=_;omega] at this);have C2:WO.cell? ⟨bb,bo+k,none⟩=some (.slice A2 f.length c2):=HB.out.cell (by have:=hda 0 _ rfl;rwa [show bo+k*b9W.size+0=bo+k by show bo+k*1+0=_;omega] at this);clear he hf hca hda hs1 hs2 ht HXS HYS;obtain⟨sm,hsm⟩:∃b:Bool,decide (e=f)=b:=⟨_,rfl⟩;rw[hsm] at HSI;go_upto_region 6 with fail;refine wp_region_held_drew (S:=fun W=>Bel WO W) (by kernel_rfl) ((Bel.rfl_ WO).dr) (fun hS=>?_);refine b0A (i:=0) (some 17) (.slice (some ⟨ab,ao,none⟩) xs.length c) rfl hS (fun W _=>by kernel_rfl) ?_;refine b0A (i:=1) (some 18) (.int .i64 k) rfl hS (fun W _=>by kernel_rfl) ?_;refine b0A (i:=2) (some 19) (.pointer (some ⟨ab,ao+k,none⟩)) rfl hS (fun W _=>by go_simp) ?_;refine b0A (i:=3) (some 20) (.slice A1 e.length c1) rfl hS (fun W hb=>b1F (hb.cell C1)) ?_;refine b0A (i:=4) (some 21) (.slice (some ⟨bb,bo,none⟩) ys.length d) rfl hS (fun W _=>by kernel_rfl) ?_;refine b0A (i:=5) (some 22) (.int .i64 k) rfl hS (fun W _=>by kernel_rfl) ?_;refine b0A (i:=6) (some 23) (.pointer (some ⟨bb,bo+k,none⟩)) rfl hS (fun W _=>by go_simp) ?_;refine b0A (i:=7) (some 24) (.slice A2 f.length c2) rfl hS (fun W hb=>b1F (hb.cell C2)) ?_;refine b0v (i:=8) (some 25) rfl 45 #[.slice A1 e.length c1,.slice A2 f.length c2] (HSI.out _ (HB.out.tr hS)) ?_;rintro x1 W9 ⟨rfl,hb⟩;refine⟨_,rfl,hS.tr hb,fun hS=>?_⟩;refine b0A (i:=9) (some 26) (.bool (!sm)) rfl hS (fun W _=>by kernel_rfl) ?_;refine wpAnyH_done (by kernel_rfl) ?_ _;try simp only[Act.put,List.setIfInBounds_toArray,List.set_cons_zero,List.set_cons_succ]
  replace HB:=Lib.hid (HB.out.tr hS);clear hS;cases sm with
  | true =>
   have HR:=Lib.hid (HN.out.1 (of_decide_eq_true hsm));clear HSI;go_wp2;go_roundw
   case rel=>exact⟨k+1,by omega,by go_num,HR,HB⟩
   case measure=>simp[intOf];omega
  | false =>
   have HR:=Lib.hid (HN.out.2 (of_decide_eq_false hsm));clear HSI;go_wp2;go_ret;exact⟨b1L HR.out.symm,HB.out⟩
theorem b3y(v u:Value)(xs ys:List Fm)(w:World)(hx:Sl frR w v xs)(hy:Sl frR w u ys) :
  Calls Try.prog 42 #[v,u] w fun r w'=>r=.returned (.bool (decide (xs=ys)))∧Bel w w':=by
 have HXS:=Lib.hid hx;have HYS:=Lib.hid hy;obtain⟨A,c,rfl,hlx⟩:=b0R hx;obtain⟨B,d,rfl,hly⟩:=b0R hy;clear hx hy;have HRF:=Lib.hid (Bel.rfl_ w);by_cases hl:xs.length=ys.length
 rotate_left
 ·have hlen:((xs.length:Int) != (ys.length:Int))=true:=by rw[bne_iff_ne];omega
  have HR:Hid (decide (xs=ys)=false):=Lib.hid (decide_eq_false fun h=>hl (by rw[h]));clear hl HXS HYS;go_enter Try.func42,Try.ntmps42;go_wp2;go_ret;exact⟨b1L HR.out.symm,HRF.out⟩
 have hlen:((xs.length:Int) != (ys.length:Int))=false:=by rw[hl];simp
 have HT0:Hid (xs.take 0=ys.take 0):=Lib.hid rfl;go_enter Try.func42,Try.ntmps42;go_wp2;go_loopw [5] (fun i wr=>∃k:Nat,k≤xs.length∧i=.int .i64 k∧Hid (xs.take k=ys.take k)∧Hid (Bel w wr)) (fun i _=>xs.length-(intOf i).toNat)
 case atStart=>exact⟨0,by omega,rfl,HT0,HRF⟩
 case round =>
  obtain⟨k,hk,rfl,ht,HB⟩:=hrel;obtain⟨WO,hWO⟩:∃W,W=wr:=⟨_,rfl⟩;subst hWO;clear HT0 HRF;by_cases hlt:k<xs.length
  rotate_left
  ·have hdd:decide ((k:Int)<xs.length)=false:=decide_eq_false (by omega)
   have HR:Hid (decide (xs=ys)=true):=Lib.hid (decide_eq_true (by
    have h1:=ht.out
    rwa [List.take_of_length_le (by omega),List.take_of_length_le (by omega)] at h1))
   clear ht HXS HYS;go_wp2;go_ret;exact⟨b1L HR.out.symm,HB.out⟩
  have hdd:decide ((k:Int)<xs.length)=true:=decide_eq_true (by omega);obtain⟨e,he⟩:∃e,xs[k]? = some e:=⟨_,List.getElem?_eq_getElem hlt⟩;obtain⟨f,hf⟩:∃e,ys[k]? = some e:=⟨_,List.getElem?_eq_getElem (by omega)⟩;have HN:Hid ((e=f→xs.take (k+1)=ys.take (k+1))∧(e≠f→decide (xs=ys)=false)):=Lib.hid ⟨fun h=>b2M he hf ht.out h,fun h=>decide_eq_false (b3H he hf h)⟩;have i0:(0:Int)≤k:=by omega
  have i1:(k:Int)<xs.length:=by omega
  have i2:(k:Int)<ys.length:=by omega
  obtain⟨ab,ao,cs,rfl,hcs,hca⟩:=HXS.out.elem he;obtain⟨bb,bo,ds,rfl,hds,hda⟩:=HYS.out.elem hf;obtain⟨v1,rfl,hs1⟩:=hcs;obtain⟨v2,rfl,hs2⟩:=hds;have HSI:=Lib.hid (fun W (h:Bel w W)=>b7F _ _ e.vars f.vars W (hs1.keep h) (hs2.keep h));obtain⟨A1,c1,rfl,-⟩:=b0R hs1;obtain⟨A2,c2,rfl,-⟩:=b0R hs2;have C10:=HB.out.cell (hca 0 _ rfl);have C11:=HB.out.cell (hca 1 _ rfl);have C12:=HB.out.cell (hca 2 _ rfl);have C20:=HB.out.cell (hda 0 _ rfl);have C21:=HB.out.cell (hda 1 _ rfl);have C22:=HB.out.cell (hda 2 _ rfl);clear he hf hca hda hs1 hs2 ht HXS HYS;obtain⟨b1,hb1⟩:∃b:Bool,(e.num != f.num)=b:=⟨_,rfl⟩;obtain⟨b2,hb2⟩:∃b:Bool,(e.fn != f.fn)=b:=⟨_,rfl⟩;go_upto_region 6 with fail;cases b1 with
  | true =>
   refine wp_region_held_drew (S:=fun W=>Bel WO W) (by kernel_rfl) ((Bel.rfl_ WO).dr) (fun hS=>?_);refine b0A (i:=0) (some 17) (.slice (some ⟨ab,ao,none⟩) xs.length c) rfl hS (fun W _=>by kernel_rfl) ?_;refine b0A (i:=1) (some 18) (.int .i64 k) rfl hS (fun W _=>by kernel_rfl) ?_;refine b0A (i:=2) (some 19) (.pointer (some ⟨ab,ao+k*3,none⟩)) rfl hS (fun W _=>by go_simp) ?_;refine b0A (i:=3) (some 20) (.pointer (some ⟨ab,ao+k*3,none⟩)) rfl hS (fun W _=>by kernel_rfl) ?_;refine b0A (i:=4) (some 21) (.int .i64 e.num) rfl hS (fun W hb=>b0I (hb.cell C10)) ?_;refine b0A (i:=5) (some 22) (.slice (some ⟨bb,bo,none⟩) ys.length d) rfl hS (fun W _=>by kernel_rfl) ?_;refine b0A (i:=6) (some 23) (.int .i64 k) rfl hS (fun W _=>by kernel_rfl) ?_;refine b0A (i:=7) (some 24) (.pointer (some ⟨bb,bo+k*3,none⟩)) rfl hS (fun W _=>by go_simp) ?_;refine b0A (i:=8) (some 25) (.pointer (some ⟨bb,bo+k*3,none⟩)) rfl hS (fun W _=>by kernel_rfl) ?_;refine b0A (i:=9) (some 26) (.int .i64 f.num) rfl hS (fun W hb=>b0I (hb.cell C20)) ?_;refine b0A (i:=10) (some 27) (.bool true) rfl hS (fun W _=>b9k rfl (by kernel_rfl) (by kernel_rfl) hb1) ?_;refine b0A (i:=11) (some 28) (.bool true) rfl hS (fun W _=>by kernel_rfl) ?_;refine b0W (i:=12) (some 29) rfl hS ?_;refine b0W (i:=13) (some 30) rfl hS ?_;refine b0W (i:=14) (some 31) rfl hS ?_;refine b0W (i:=15) (some 32) rfl hS ?_;refine b0W (i:=16) (some 33) rfl hS ?_;refine b0W (i:=17) (some 34) rfl hS ?_;refine b0W (i:=18) (some 35) rfl hS ?_;refine b0W (i:=19) (some 36) rfl hS ?_;refine b0W (i:=20) (some 37) rfl hS ?_;refine b0W (i:=21) (some 38) rfl hS ?_;refine b0W (i:=22) (some 39) rfl hS ?_;refine b0A (i:=23) (some 40) (.bool true) rfl hS (fun W _=>by kernel_rfl) ?_;refine b0A (i:=24) (some 41) (.bool true) rfl hS (fun W _=>by kernel_rfl) ?_;refine b0W (i:=25) (some 42) rfl hS ?_;refine b0W (i:=26) (some 43) rfl hS ?_;refine b0W (i:=27) (some 44) rfl hS ?_;refine b0W (i:=28) (some 45) rfl hS ?_;refine b0W (i:=29) (some 46) rfl hS ?_
   refine b0W (i:=30) (some 47) rfl hS ?_;refine b0W (i:=31) (some 48) rfl hS ?_;refine b0W (i:=32) (some 49) rfl hS ?_;refine b0W (i:=33) (some 50) rfl hS ?_;refine b0W (i:=34) (some 51) rfl hS ?_;refine b0W (i:=35) (some 52) rfl hS ?_;refine b0W (i:=36) (some 53) rfl hS ?_;refine b0A (i:=37) (some 54) (.bool true) rfl hS (fun W _=>by kernel_rfl) ?_;refine wpAnyH_done (by kernel_rfl) ?_ _;try simp only[Act.put,List.setIfInBounds_toArray,List.set_cons_zero,List.set_cons_succ]
   replace HB:=Lib.hid (HB.out.tr hS);have HR:=Lib.hid (HN.out.2 (by rintro rfl;simp at hb1));clear hS HSI;go_wp2;go_ret;exact⟨b1L HR.out.symm,HB.out⟩
  | false =>
   cases b2 with
   | true =>
    refine wp_region_held_drew (S:=fun W=>Bel WO W) (by kernel_rfl) ((Bel.rfl_ WO).dr) (fun hS=>?_);refine b0A (i:=0) (some 17) (.slice (some ⟨ab,ao,none⟩) xs.length c) rfl hS (fun W _=>by kernel_rfl) ?_;refine b0A (i:=1) (some 18) (.int .i64 k) rfl hS (fun W _=>by kernel_rfl) ?_;refine b0A (i:=2) (some 19) (.pointer (some ⟨ab,ao+k*3,none⟩)) rfl hS (fun W _=>by go_simp) ?_;refine b0A (i:=3) (some 20) (.pointer (some ⟨ab,ao+k*3,none⟩)) rfl hS (fun W _=>by kernel_rfl) ?_;refine b0A (i:=4) (some 21) (.int .i64 e.num) rfl hS (fun W hb=>b0I (hb.cell C10)) ?_;refine b0A (i:=5) (some 22) (.slice (some ⟨bb,bo,none⟩) ys.length d) rfl hS (fun W _=>by kernel_rfl) ?_;refine b0A (i:=6) (some 23) (.int .i64 k) rfl hS (fun W _=>by kernel_rfl) ?_;refine b0A (i:=7) (some 24) (.pointer (some ⟨bb,bo+k*3,none⟩)) rfl hS (fun W _=>by go_simp) ?_;refine b0A (i:=8) (some 25) (.pointer (some ⟨bb,bo+k*3,none⟩)) rfl hS (fun W _=>by kernel_rfl) ?_;refine b0A (i:=9) (some 26) (.int .i64 f.num) rfl hS (fun W hb=>b0I (hb.cell C20)) ?_;refine b0A (i:=10) (some 27) (.bool false) rfl hS (fun W _=>b9k rfl (by kernel_rfl) (by kernel_rfl) hb1) ?_;refine b0A (i:=11) (some 28) (.bool false) rfl hS (fun W _=>by kernel_rfl) ?_;refine b0A (i:=12) (some 29) (.slice (some ⟨ab,ao,none⟩) xs.length c) rfl hS (fun W _=>by kernel_rfl) ?_;refine b0A (i:=13) (some 30) (.int .i64 k) rfl hS (fun W _=>by kernel_rfl) ?_;refine b0A (i:=14) (some 31) (.pointer (some ⟨ab,ao+k*3,none⟩)) rfl hS (fun W _=>by go_simp) ?_;refine b0A (i:=15) (some 32) (.pointer (some ⟨ab,ao+k*3+1,none⟩)) rfl hS (fun W _=>by kernel_rfl) ?_;refine b0A (i:=16) (some 33) (.int .i64 e.fn) rfl hS (fun W hb=>b0I (hb.cell C11)) ?_;refine b0A (i:=17) (some 34) (.slice (some ⟨bb,bo,none⟩) ys.length d) rfl hS (fun W _=>by kernel_rfl) ?_;refine b0A (i:=18) (some 35) (.int .i64 k) rfl hS (fun W _=>by kernel_rfl) ?_;refine b0A (i:=19) (some 36) (.pointer (some ⟨bb,bo+k*3,none⟩)) rfl hS (fun W _=>by go_simp) ?_
    refine b0A (i:=20) (some 37) (.pointer (some ⟨bb,bo+k*3+1,none⟩)) rfl hS (fun W _=>by kernel_rfl) ?_;refine b0A (i:=21) (some 38) (.int .i64 f.fn) rfl hS (fun W hb=>b0I (hb.cell C21)) ?_;refine b0A (i:=22) (some 39) (.bool true) rfl hS (fun W _=>b9k rfl (by kernel_rfl) (by kernel_rfl) hb2) ?_;refine b0A (i:=23) (some 40) (.bool true) rfl hS (fun W _=>by kernel_rfl) ?_;refine b0A (i:=24) (some 41) (.bool true) rfl hS (fun W _=>by kernel_rfl) ?_;refine b0W (i:=25) (some 42) rfl hS ?_;refine b0W (i:=26) (some 43) rfl hS ?_;refine b0W (i:=27) (some 44) rfl hS ?_;refine b0W (i:=28) (some 45) rfl hS ?_;refine b0W (i:=29) (some 46) rfl hS ?_;refine b0W (i:=30) (some 47) rfl hS ?_;refine b0W (i:=31) (some 48) rfl hS ?_;refine b0W (i:=32) (some 49) rfl hS ?_;refine b0W (i:=33) (some 50) rfl hS ?_;refine b0W (i:=34) (some 51) rfl hS ?_;refine b0W (i:=35) (some 52) rfl hS ?_;refine b0W (i:=36) (some 53) rfl hS ?_;refine b0A (i:=37) (some 54) (.bool true) rfl hS (fun W _=>by kernel_rfl) ?_;refine wpAnyH_done (by kernel_rfl) ?_ _;try simp only[Act.put,List.setIfInBounds_toArray,List.set_cons_zero,List.set_cons_succ]
    replace HB:=Lib.hid (HB.out.tr hS);have HR:=Lib.hid (HN.out.2 (by rintro rfl;simp at hb2));clear hS HSI;go_wp2;go_ret;exact⟨b1L HR.out.symm,HB.out⟩
   | false =>
    obtain⟨sm,hsm⟩:∃b:Bool,decide (e.vars=f.vars)=b:=⟨_,rfl⟩;rw[hsm] at HSI
    have HE:Hid (e=f↔sm=true):=Lib.hid (by
     have h1:e.num=f.num:=by simpa using hb1
     have h2:e.fn=f.fn:=by simpa using hb2
     rw[←hsm,decide_eq_true_iff];cases e;cases f
     simp_all)
    refine wp_region_held_drew (S:=fun W=>Bel WO W) (by kernel_rfl) ((Bel.rfl_ WO).dr) (fun hS=>?_);refine b0A (i:=0) (some 17) (.slice (some ⟨ab,ao,none⟩) xs.length c) rfl hS (fun W _=>by kernel_rfl) ?_;refine b0A (i:=1) (some 18) (.int .i64 k) rfl hS (fun W _=>by kernel_rfl) ?_;refine b0A (i:=2) (some 19) (.pointer (some ⟨ab,ao+k*3,none⟩)) rfl hS (fun W _=>by go_simp) ?_;refine b0A (i:=3) (some 20) (.pointer (some ⟨ab,ao+k*3,none⟩)) rfl hS (fun W _=>by kernel_rfl) ?_;refine b0A (i:=4) (some 21) (.int .i64 e.num) rfl hS (fun W hb=>b0I (hb.cell C10)) ?_;refine b0A (i:=5) (some 22) (.slice (some ⟨bb,bo,none⟩) ys.length d) rfl hS (fun W _=>by kernel_rfl) ?_;refine b0A (i:=6) (some 23) (.int .i64 k) rfl hS (fun W _=>by kernel_rfl) ?_;refine b0A (i:=7) (some 24) (.pointer (some ⟨bb,bo+k*3,none⟩)) rfl hS (fun W _=>by go_simp) ?_;refine b0A (i:=8) (some 25) (.pointer (some ⟨bb,bo+k*3,none⟩)) rfl hS (fun W _=>by kernel_rfl) ?_;refine b0A (i:=9) (some 26) (.int .i64 f.num) rfl hS (fun W hb=>b0I (hb.cell C20)) ?_;refine b0A (i:=10) (some 27) (.bool false) rfl hS (fun W _=>b9k rfl (by kernel_rfl) (by kernel_rfl) hb1) ?_;refine b0A (i:=11) (some 28) (.bool false) rfl hS (fun W _=>by kernel_rfl) ?_;refine b0A (i:=12) (some 29) (.slice (some ⟨ab,ao,none⟩) xs.length c) rfl hS (fun W _=>by kernel_rfl) ?_;refine b0A (i:=13) (some 30) (.int .i64 k) rfl hS (fun W _=>by kernel_rfl) ?_;refine b0A (i:=14) (some 31) (.pointer (some ⟨ab,ao+k*3,none⟩)) rfl hS (fun W _=>by go_simp) ?_;refine b0A (i:=15) (some 32) (.pointer (some ⟨ab,ao+k*3+1,none⟩)) rfl hS (fun W _=>by kernel_rfl) ?_;refine b0A (i:=16) (some 33) (.int .i64 e.fn) rfl hS (fun W hb=>b0I (hb.cell C11)) ?_;refine b0A (i:=17) (some 34) (.slice (some ⟨bb,bo,none⟩) ys.length d) rfl hS (fun W _=>by kernel_rfl) ?_;refine b0A (i:=18) (some 35) (.int .i64 k) rfl hS (fun W _=>by kernel_rfl) ?_;refine b0A (i:=19) (some 36) (.pointer (some ⟨bb,bo+k*3,none⟩)) rfl hS (fun W _=>by go_simp) ?_
    refine b0A (i:=20) (some 37) (.pointer (some ⟨bb,bo+k*3+1,none⟩)) rfl hS (fun W _=>by kernel_rfl) ?_;refine b0A (i:=21) (some 38) (.int .i64 f.fn) rfl hS (fun W hb=>b0I (hb.cell C21)) ?_;refine b0A (i:=22) (some 39) (.bool false) rfl hS (fun W _=>b9k rfl (by kernel_rfl) (by kernel_rfl) hb2) ?_;refine b0A (i:=23) (some 40) (.bool false) rfl hS (fun W _=>by kernel_rfl) ?_;refine b0A (i:=24) (some 41) (.bool false) rfl hS (fun W _=>by kernel_rfl) ?_;refine b0A (i:=25) (some 42) (.slice (some ⟨ab,ao,none⟩) xs.length c) rfl hS (fun W _=>by kernel_rfl) ?_;refine b0A (i:=26) (some 43) (.int .i64 k) rfl hS (fun W _=>by kernel_rfl) ?_;refine b0A (i:=27) (some 44) (.pointer (some ⟨ab,ao+k*3,none⟩)) rfl hS (fun W _=>by go_simp) ?_;refine b0A (i:=28) (some 45) (.pointer (some ⟨ab,ao+k*3+2,none⟩)) rfl hS (fun W _=>by kernel_rfl) ?_;refine b0A (i:=29) (some 46) (.slice A1 e.vars.length c1) rfl hS (fun W hb=>c0i rfl (by kernel_rfl) (hb.cell C12)) ?_;refine b0A (i:=30) (some 47) (.slice (some ⟨bb,bo,none⟩) ys.length d) rfl hS (fun W _=>by kernel_rfl) ?_;refine b0A (i:=31) (some 48) (.int .i64 k) rfl hS (fun W _=>by kernel_rfl) ?_;refine b0A (i:=32) (some 49) (.pointer (some ⟨bb,bo+k*3,none⟩)) rfl hS (fun W _=>by go_simp) ?_;refine b0A (i:=33) (some 50) (.pointer (some ⟨bb,bo+k*3+2,none⟩)) rfl hS (fun W _=>by kernel_rfl) ?_;refine b0A (i:=34) (some 51) (.slice A2 f.vars.length c2) rfl hS (fun W hb=>c0i rfl (by kernel_rfl) (hb.cell C22)) ?_;refine b0v (i:=35) (some 52) rfl 84 #[.slice A1 e.vars.length c1,.slice A2 f.vars.length c2] (HSI.out _ (HB.out.tr hS)) ?_;rintro x1 W9 ⟨rfl,hb⟩;refine⟨_,rfl,hS.tr hb,fun hS=>?_⟩;refine b0A (i:=36) (some 53) (.bool (!sm)) rfl hS (fun W _=>by kernel_rfl) ?_;refine b0A (i:=37) (some 54) (.bool (!sm)) rfl hS (fun W _=>by kernel_rfl) ?_;refine wpAnyH_done (by kernel_rfl) ?_ _;try simp only[Act.put,List.setIfInBounds_toArray,List.set_cons_zero,List.set_cons_succ]
    replace HB:=Lib.hid (HB.out.tr hS);clear hS;cases sm with
    | true =>
     have HR:=Lib.hid (HN.out.1 (HE.out.2 rfl));clear HSI;go_wp2;go_roundw
     case rel=>exact⟨k+1,by omega,by go_num,HR,HB⟩
     case measure=>simp[intOf];omega
    | false =>
     have HR:=Lib.hid (HN.out.2 (fun h=>by have:=HE.out.1 h;cases this));clear HSI;go_wp2;go_ret;exact⟨b1L HR.out.symm,HB.out⟩
noncomputable def atE (ps:List PF)(l:List Ev)(T:Int):Int:=if stateE ps l≠0 then stateE ps l else if T<0∨(l.length:Int)<T then 3 else 0
theorem c2Q{ps:List PF}{l:List Ev}{T:Int}(h:atE ps l T=0):stateE ps l=0∧0≤T∧T≤l.length:=by
 unfold atE at h;split at h
 ·rename_i h1;exact absurd h h1
 ·split at h
  ·omega
  ·omega
def c0U(ps:List PF)(l:List Ev)(T:Int):List Fm:=(Rp.evs ps (l.take T.toNat) (Rp.start ps)).frs
theorem b8y(ps:List PF)(l:List Ev)(T:Int)(vp vl:Value)(w:World)(h:Sl pfR w vp ps)(hl:Sl evR w vl l):Calls Try.prog 34 #[.agg #[vp],vl,.int .i64 T] w fun x w' =>
  Bel w w'∧∃v,x=.returned (.tuple #[v,.int .i64 (atE ps l T)])∧(atE ps l T≠0→v=.slice none 0 0)∧(atE ps l T=0→Sl frR w' v (c0U ps l T)):=by
 have HSL:=Lib.hid h;have HEV:=Lib.hid hl;obtain⟨A,c,rfl,-⟩:=b0R h;obtain⟨Ae,ce,rfl,hll⟩:=b0R hl;have HB1:Hid (Bel w (w.alloc (.cells #[.slice A ps.length c] PGT))):=Lib.hid ((Bel.rfl_ w).al _);have HP1:=Lib.hid (Blk.new w PGT #[.slice A ps.length c]);have c0:=HP1.out.cell (i:=0) rfl;have HRD:=Lib.hid (fun W (hb:Bel w W)=>b4G ps l _ _ W (HSL.out.keep hb) (HEV.out.keep hb));have HA:=Lib.hid (show atE ps l T=if stateE ps l≠0 then stateE ps l else if T<0∨(l.length:Int)<T then 3 else 0 from rfl);have HSO:=Lib.hid (@b3h ps l);clear h hl;generalize atE ps l T=E at *;generalize stateE ps l=SE at *;go_enter Try.func34,Try.ntmps34;go_wp2_with fail
 refine(HRD.out _ HB1.out).mono ?_;rintro r w2 ⟨rfl,b2⟩;have HB2:=Lib.hid (HB1.out.tr b2);have c0':=b2.cell c0;clear b2 c0 HRD HP1 HB1;generalize w.alloc _=W1 at *;generalize w.heap.size=Q at *;by_cases h0:SE=0
 rotate_left
 ·have d0:(SE != 0)=true:=by simpa using h0
  have HR:Hid (E=SE):=Lib.hid (by rw[HA.out,if_pos h0]);have H0:=Lib.hid h0;clear h0 HA c0';go_wp2;go_ret2
  exact⟨HB2.out,_,by rw[HR.out];rfl,fun _=>rfl,fun h=>absurd (HR.out.symm.trans h) H0.out⟩
 subst h0;by_cases h1:T<0
 ·have d1:decide (T<0)=true:=decide_eq_true h1;have HR:Hid (E=3):=Lib.hid (by rw[HA.out,if_neg (by decide),if_pos (.inl h1)]);clear HA c0';go_wp2;go_ret2
  exact⟨HB2.out,_,by rw[HR.out];rfl,fun _=>rfl,fun h=>by rw[HR.out] at h;cases h⟩
 have d1:decide (T<0)=false:=decide_eq_false h1;by_cases h2:(l.length:Int)<T
 ·have d2:decide ((l.length:Int)<T)=true:=decide_eq_true h2;have d3:decide (T > (l.length:Int))=true:=decide_eq_true h2;have HR:Hid (E=3):=Lib.hid (by rw[HA.out,if_neg (by decide),if_pos (.inr h2)]);clear HA c0';go_wp2;go_ret2
  exact⟨HB2.out,_,by rw[HR.out];rfl,fun _=>rfl,fun h=>by rw[HR.out] at h;cases h⟩
 have d2:decide ((l.length:Int)<T)=false:=decide_eq_false h2;have d3:decide (T > (l.length:Int))=false:=decide_eq_false h2;obtain⟨n,rfl⟩:∃n:Nat,T=n:=⟨T.toNat,by omega⟩;have HR:Hid (E=0):=Lib.hid (by rw[HA.out,if_neg (by decide),if_neg (by omega)]);obtain⟨hp,hr,hl4⟩:=HSO.out rfl;have HRW:=Lib.hid (c0z ps hp l (b2C.fits hp hr) hl4 n (by omega) _ _ w2 (HSL.out.keep HB2.out) (HEV.out.keep HB2.out));clear HA hp hr hl4 HSO;go_wp2_with fail
 refine HRW.out.mono ?_;rintro x w3 ⟨b3,w1,r,vfr,vp2,vfn,xs,b1,rfl,hD⟩;have HB3:=Lib.hid (HB2.out.tr b3)
 have HF:Hid (Sl frR w3 vfr (c0U ps l n)):=Lib.hid (by
  have:=c2V hD.row hD.vars
  rwa [←hD.frs] at this)
 clear b3 hD HRW c0';go_wp2;go_ret2
 exact⟨HB3.out,_,by rw[HR.out];rfl,fun h=>absurd HR.out h,fun _=>HF.out⟩
end Go.Proofs.Ytgkpplbomciehaa
