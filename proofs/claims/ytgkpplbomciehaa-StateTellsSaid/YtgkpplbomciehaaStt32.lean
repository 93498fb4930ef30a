/- How many tasks wait; one step of the document's machine. Each lemma states its own conditions. -/
import Derived.Test.YtgkpplbomciehaaStt31
namespace Go.Proofs.Ytgkpplbomciehaa
set_option maxRecDepth 20000
open Go.RowKit
def TB(m:Mc):Prop:=0≤m.steps∧∀f∈m.frames,(f.tasks.length:Int)≤50*(m.steps+1)
theorem TB.write{m:Mc}(h:TB m)(a v i n:Int):TB (m.write a v i n):=by
 refine⟨h.1,fun f hf=>?_⟩;unfold Mc.write Mc.top Mc.tell at hf;dsimp only at hf;cases hm:m.frames with
 | nil=>rw[hm] at hf;simp at hf
 | cons g r =>
  rw[hm] at hf;rcases List.mem_cons.1 hf with rfl | hf
  ·exact h.2 g (by rw[hm];simp)
  ·exact h.2 f (by rw[hm];simp[hf])
theorem TB.writes(a:Int):∀(l:List Int) (i:Nat) {m:Mc},TB m→TB (Mc.writes a l i m)
 | [],_,_,h=>h
 | n::l,i,_,h=>TB.writes a l (i+1) (h.write a i 0 n)
theorem TB.top{m:Mc}{f:Fr}{rest:List Fr}(hf:m.frames=f::rest)(h:TB m){g:Fr→Fr}(hg:((g f).tasks.length:Int)≤50*(m.steps+1)):TB (m.top g):=by
 refine⟨h.1,fun x hx=>?_⟩;unfold Mc.top at hx;dsimp only at hx;rw[hf] at hx;rcases List.mem_cons.1 hx with rfl | hx
 ·exact hg
 ·exact h.2 x (by rw[hf];simp[hx])
theorem TB.step{ps:List PF}{fuel:Int}{m:Mc}{f:Fr}{rest:List Fr}(hp:Prog ps)(h:Good ps fuel m f rest)(hb:TB m):TB (m.do_ ps fuel):=by
 obtain⟨hfr,⟨g,hf0,hg,hfit,hts,ha1,ha2⟩,hfn,hrst,h5,s0,s1,m0,m1,hin,hlen,hon⟩:=h;have hbf:=hb.2 f (by rw[hfr];simp);have hbr:∀c∈rest,(c.tasks.length:Int)≤50*(m.steps+1):=fun c hc=>hb.2 c (by rw[hfr];simp[hc]);cases htk:f.tasks with
 | nil=>rw[htk] at hts;exact hts.elim
 | cons t ts =>
  rw[htk] at hts hbf;rw[List.length_cons] at hbf;cases t with
  | back =>
   rw[Mc.do_back hfr htk];cases rest with
   | nil=>exact hb
   | cons c rest =>
    obtain⟨hcok,⟨x,a,cts,hct,hk3⟩,hcfn,hrst'⟩:=hrst;rw[Mc.back_one hct];split
    ·exact hb
    ·have hbc:=hbr c (by simp);rw[hct,List.length_cons] at hbc
     have hM:TB { m.tell 6 c.at_ 0 0 ((ps.getD f.fn.toNat noF).result.val f.vars).1 with frames:={ c with tasks:=cts }::rest }:=by
      refine⟨hb.1,fun y hy=>?_⟩;rcases List.mem_cons.1 hy with rfl | hy
      ·show(cts.length:Int)≤50*(m.steps+1);omega
      ·show(y.tasks.length:Int)≤50*(m.steps+1);exact hbr y (List.mem_cons_of_mem _ hy)
     exact hM.write _ _ _ _
  | cmd x a =>
   rw[Mc.do_cmd hfr htk];obtain⟨hx,hts'⟩:=hts;obtain⟨calls,hcl,hci⟩:=hx.is;obtain⟨hx0,hx40,-⟩:=id hx;have hcnt:=PC.cnt_eq x;have ht:=b2S x.thn;have he:=b2S x.els;by_cases hst:m.steps=fuel
   ·rw[if_pos hst];exact hb
   rw[if_neg hst]
   have hB1:∀T:List Tk,(T.length:Int)≤50*(m.steps+2)→TB (Mc.tell { m with steps:=m.steps+1,frames:={ f with at_:=a,tasks:=T }::rest } 1 a 0 0 0):=fun T hT=>by
    refine⟨by show 0≤m.steps+1;omega,fun y hy=>?_⟩;show(y.tasks.length:Int)≤50*(m.steps+1+1);rcases List.mem_cons.1 hy with rfl | hy
    ·show(T.length:Int)≤_;omega
    ·have:=hbr y hy;omega
   by_cases h3:x.kind=3
   ·rw[if_pos h3];have hB0:=hB1 f.tasks (by rw[htk,List.length_cons];omega);have hfn3:=hci.fn h3;have hgg:=Prog.get hfn3.1 (show x.fn<ps.length by omega);obtain⟨c1,c2,-⟩:=hp.cmds hgg;have hlen2:=b2S (ps.getD x.fn.toNat noF).cmds;unfold Mc.call;split
    ·exact hB0
    split
    ·exact hB0
    refine TB.writes _ _ _ ⟨hB0.1,fun y hy=>?_⟩;rcases List.mem_cons.1 hy with rfl | hy
    ·show((b1G _ _++[Tk.back]).length:Int)≤50*(m.steps+1+1);rw[List.length_append,b1u];simp only[List.length_cons,List.length_nil];omega
    ·exact hB0.2 y hy
   ·rw[if_neg h3];have hB:=hB1 ts (by omega);have hfr2:(Mc.tell { m with steps:=m.steps+1,frames:={ f with at_:=a,tasks:=ts }::rest } 1 a 0 0 0).frames={ f with at_:=a,tasks:=ts }::rest:=rfl;have hs2:(Mc.tell { m with steps:=m.steps+1,frames:={ f with at_:=a,tasks:=ts }::rest } 1 a 0 0 0).steps=m.steps+1:=rfl;generalize Mc.tell { m with steps:=m.steps+1,frames:={ f with at_:=a,tasks:=ts }::rest } 1 a 0 0 0=M at *;unfold Mc.cmd;dsimp only;split
    ·exact TB.write (m:=Mc.tell { M with inp:=M.inp.tail } 3 a 0 0 (M.inp.headD 0)) hB _ _ _ _
    split
    ·exact hB
    split
    ·exact hB
    split
    ·split
     ·exact hB.write _ _ _ _
     ·exact hB
    split
    ·exact hB.write _ _ _ _
    split
    ·exact hB
    split
    ·refine hB.top hfr2 ?_;dsimp only;rw[hs2,List.length_append];split
     ·rw[b1u];omega
     ·rw[b1u];omega
    split
    ·refine hB.top hfr2 ?_;dsimp only;rw[hs2,List.length_append,List.length_cons,b1u];omega
    ·exact hB
theorem c2v{w0 w:World}{ps:List PF}{fuel:Int}{inp:List Int}{q:Nat}{m:Mc}{f:Fr}{rest:List Fr}(h:c1L w0 ps fuel inp q w m)(hp:Prog ps)(hg:Good ps fuel m f rest)(hb:TB m)(hfu:fuel≤10000)(hinl:inp.length≤1000000) :
  Calls Try.prog 76 #[.pointer (some ⟨q,0,none⟩)] w fun r w'=>r=.returned (.tuple #[])∧c1L w0 ps fuel inp q w' (m.do_ ps fuel):=by
 obtain⟨hfr,⟨G,hf0,hG,hfit,hts,ha1,ha2⟩,hfn,hrst,h5,s0,s1,m0,m1,hin,hlen,hon⟩:=hg;have hbf:=hb.2 f (by rw[hfr];simp);have hbr:∀c∈rest,(c.tasks.length:Int)≤50*(m.steps+1):=fun c hc=>hb.2 c (by rw[hfr];simp[hc]);obtain⟨vp,vin,vfr,vout,taken,xs,h⟩:=h;have hl:=h.frs.len;rw[hfr] at hl;obtain⟨fnum,ff,fa,fv,tks⟩:=f;dsimp only at hf0 hG hfit hts hbf hfn;obtain _ | ⟨x,xs⟩:=xs
 ·simp at hl
 cases tks with
 | nil=>exact hts.elim
 | cons t ts =>
  rw[List.length_cons] at hbf;cases t with
  | back =>
   rw[Mc.do_back hfr rfl];refine c1n h hfr h5 (by omega) fun W vfr2 xs2 hW=>?_;have hl2:=hW.frs.len;rw[hfr] at hl2;cases rest with
   | nil =>
    obtain _ | ⟨x2,_ | ⟨y2,ys⟩⟩:=xs2
    ·simp at hl2
    ·exact c0X hW hfr (by omega)
    ·simp at hl2
   | cons c rest =>
    obtain⟨⟨G2,g20,hG2,hfit2,hts2,-⟩,⟨X,a,cts,hct,hk3⟩,hcfn,-⟩:=hrst;have hbc:=hbr c (by simp);rw[hct,List.length_cons] at hbc;obtain⟨cn,cf,ca,cv,ctk⟩:=c;dsimp only at hct hts2 hfit2;subst hct;obtain⟨calls,hcl,hci⟩:=hts2.1.is;have hv:=hci.var (by omega);obtain⟨l,hvl⟩:∃l,cv[X.var.toNat]? = some l:=⟨_,List.getElem?_eq_getElem (by rw[hfit2.1];omega)⟩;have hl0:0<l.length:=(hfit2.2 _ l hvl).1 (hci.one (by omega) (by omega));have hfn2:=hfn (by simp);obtain _ | ⟨x2,_ | ⟨y2,ys⟩⟩:=xs2
    ·simp at hl2
    ·simp at hl2
    ·exact c1m hW hfr (by simp only[List.length_cons] at h5;omega) (by omega) hf0 hG hfit ((hp.fns _ _ hG).res (by omega)) (by omega) hv.1 hvl hl0
  | cmd X a =>
   obtain⟨hx,hts'⟩:=hts;exact c2w h hfr h5 (by omega) hp hfit hx (by omega) s0 (by omega) (by omega) (by omega) hinl
theorem c3W:Try.prog.stoodInHeld 63=false:=by kernel_rfl
theorem c4R:Try.prog.eqGuardType Try.prog.depth 63=false:=by kernel_rfl
theorem c0L(e f:Ev):decide (e=f)=(e.kind==f.kind && (e.frame==f.frame && (e.at_==f.at_ && (e.var==f.var && (e.index==f.index && e.value==f.value))))):=by
 cases e;cases f;rw[Bool.eq_iff_iff];simp
theorem c0w(e f:Ev)(w:World):(Op.equalIn 10000 63 e.val f.val).run Try.prog w=.ok (decide (e=f)) w:=by
 rw[c0L];unfold Ev.val;rw[show(10000:Nat)=9999+1 from rfl,run_equalIn_agg _ _ _ _ _ (by simp[go_sem]) c3W];cases h0:e.kind==f.kind
 ·simp[go_sem,h0]
 cases h1:e.frame==f.frame
 ·simp[go_sem,h0,h1]
 cases h2:e.at_==f.at_
 ·simp[go_sem,h0,h1,h2]
 cases h3:e.var==f.var
 ·simp[go_sem,h0,h1,h2,h3]
 cases h4:e.index==f.index
 ·simp[go_sem,h0,h1,h2,h3,h4]
 cases h5:e.value==f.value
 ·simp[go_sem,h0,h1,h2,h3,h4,h5]
 ·simp[go_sem,h0,h1,h2,h3,h4,h5]
theorem c2W(e f:Ev)(w:World):(binOp .neq 63 e.val f.val).run Try.prog w=.ok (.bool (!decide (e=f))) w:=by
 have h:=c0w e f w;unfold Ev.val at *;rw[run_neq_struct,h];rfl
theorem c2U(op:BinOp)(e f:Ev)(x y:Operand)(w:World):(eqGuard op 63 x y e.val f.val).run Try.prog w=.ok () w:=
 run_eqGuard_agg w _ _ _ _ _ _ c4R
theorem b5A{α:Type}{xs ys:List α}{k:Nat}{x y:α}(hx:xs[k]? = some x)(hy:ys[k]? = some y)(h:xs.take k=ys.take k)(e:x=y):xs.take (k+1)=ys.take (k+1):=by
 rw[List.take_add_one,List.take_add_one,h,hx,hy,e]
theorem b7i{α:Type}{xs ys:List α}{k:Nat}{x y:α}(hx:xs[k]? = some x)(hy:ys[k]? = some y)(e:x≠y):xs≠ys:=by
 rintro rfl;rw[hx] at hy;exact e (by injection hy)
theorem b6B(v u:Value)(xs ys:List Ev)(w:World)(hx:Sl evR w v xs)(hy:Sl evR w u ys)(hlx:b5g xs.length)(_hly:b5g ys.length) :
  Calls Try.prog 33 #[v,u] w fun r w'=>r=.returned (.bool (decide (xs=ys)))∧Bel w w':=by
 obtain⟨A,c,rfl,hc,hm,hA⟩:=hx;obtain⟨B,d,rfl,hd,hn,hB⟩:=hy;unfold b5g at hlx _hly;have HA:=Lib.hid hA;clear hA;have HB:=Lib.hid hB;clear hB;by_cases hl:xs.length=ys.length
 ·have hlen:((xs.length:Int) != (ys.length:Int))=false:=by rw[hl];simp
  have hle:xs.length≤ys.length:=by omega
  have hge:ys.length≤xs.length:=by omega
  have HL:=Lib.hid hl;clear hl;go_enter Try.func33,Try.ntmps33;go_wp2;go_loopw [5] (fun i wr=>∃k:Nat,k≤xs.length∧i=.int .i64 k∧Hid (xs.take k=ys.take k)∧∃n,wr=w.drewN n) (fun i _=>xs.length-(intOf i).toNat)
  case atStart=>exact⟨0,by omega,rfl,rfl,0,rfl⟩
  case round =>
   obtain⟨k,hk,rfl,ht,n,rfl⟩:=hrel;by_cases hlt:k<xs.length
   ·have hlt':k<ys.length:=by omega
    obtain⟨e,he⟩:∃e,xs[k]? = some e:=⟨_,List.getElem?_eq_getElem hlt⟩;obtain⟨f,hf⟩:∃e,ys[k]? = some e:=⟨_,List.getElem?_eq_getElem hlt'⟩;obtain⟨ab,ao,rfl,hA⟩:=HA.out (by omega);obtain⟨bb,bo,rfl,hB⟩:=HB.out (by omega);obtain⟨x0,x1,x2,x3,x4,x5⟩:=evR.cells hA he;obtain⟨y0,y1,y2,y3,y4,y5⟩:=evR.cells hB hf;clear hA hB HA HB;have HE:=Lib.hid he;clear he;have HF:=Lib.hid hf;clear hf;have ne:=c2W e f;have eg:=c2U .neq e f;unfold Ev.val at ne eg;by_cases hef:e=f
    ·have hdec:decide (e=f)=true:=by simpa using hef
     have HEF:=Lib.hid hef;clear hef;go_wp2;go_quiet (fail)
     go_wp2;go_roundw
     case rel=>exact⟨k+1,by omega,by go_num,b5A HE.out HF.out ht.out HEF.out,_,rfl⟩
     case measure=>simp[intOf];omega
    ·have hdec:decide (e=f)=false:=by simpa using hef
     have HEF:=Lib.hid hef;clear hef;go_wp2;go_quiet (fail)
     go_wp2;go_ret;refine⟨b1L ?_,by repeat (first | exact Bel.rfl_ _ | apply Bel.drN)⟩;have:=b7i HE.out HF.out HEF.out;simp[this]
   ·go_wp2;go_ret;refine⟨b1L ?_,by repeat (first | exact Bel.rfl_ _ | apply Bel.drN)⟩;have h1:=ht.out;rw[List.take_of_length_le (by omega),List.take_of_length_le (by omega)] at h1;simp[h1]
 ·have hlen:((xs.length:Int) != (ys.length:Int))=true:=by rw[bne_iff_ne];omega
  have HL:=Lib.hid hl;clear hl;go_enter Try.func33,Try.ntmps33;go_wp2;go_ret;refine⟨b1L ?_,Bel.rfl_ w⟩;have:xs≠ys:=fun h=>HL.out (by rw[h]);simp[this]
theorem b5W(v u:Value)(xs ys:List Ev)(w:World)(hx:Sl evR w v xs)(hy:Sl evR w u ys)(hlx:b5g xs.length)(_hly:b5g ys.length) :
  Calls Try.prog 125 #[v,u] w fun r w'=>r=.returned (.bool (decide (xs=ys)))∧Bel w w':=by
 obtain⟨A,c,rfl,hc,hm,hA⟩:=hx;obtain⟨B,d,rfl,hd,hn,hB⟩:=hy;unfold b5g at hlx _hly;have HA:=Lib.hid hA;clear hA;have HB:=Lib.hid hB;clear hB;by_cases hl:xs.length=ys.length
 ·have hlen:((xs.length:Int) != (ys.length:Int))=false:=by rw[hl];simp
  have hle:xs.length≤ys.length:=by omega
  have hge:ys.length≤xs.length:=by omega
  have HL:=Lib.hid hl;clear hl;go_enter Try.func125,Try.ntmps125;go_wp2;go_loopw [13] (fun i wr=>∃k:Nat,k≤xs.length∧i=.int .i64 k∧Hid (xs.take k=ys.take k)∧∃n,wr=w.drewN n) (fun i _=>xs.length-(intOf i).toNat)
  case atStart=>exact⟨0,by omega,rfl,rfl,0,rfl⟩
  case round =>
   obtain⟨k,hk,rfl,ht,n,rfl⟩:=hrel;by_cases hlt:k<xs.length
   ·have hlt':k<ys.length:=by omega
    obtain⟨e,he⟩:∃e,xs[k]? = some e:=⟨_,List.getElem?_eq_getElem hlt⟩;obtain⟨f,hf⟩:∃e,ys[k]? = some e:=⟨_,List.getElem?_eq_getElem hlt'⟩;obtain⟨ab,ao,rfl,hA⟩:=HA.out (by omega);obtain⟨bb,bo,rfl,hB⟩:=HB.out (by omega);obtain⟨x0,x1,x2,x3,x4,x5⟩:=evR.cells hA he;obtain⟨y0,y1,y2,y3,y4,y5⟩:=evR.cells hB hf;clear hA hB HA HB;have HE:=Lib.hid he;clear he;have HF:=Lib.hid hf;clear hf;have ne:=c2W e f;have eg:=c2U .neq e f;unfold Ev.val at ne eg;by_cases hef:e=f
    ·have hdec:decide (e=f)=true:=by simpa using hef
     have HEF:=Lib.hid hef;clear hef;go_wp2;go_quiet (fail)
     go_wp2;go_roundw
     case rel=>exact⟨k+1,by omega,by go_num,b5A HE.out HF.out ht.out HEF.out,_,rfl⟩
     case measure=>simp[intOf];omega
    ·have hdec:decide (e=f)=false:=by simpa using hef
     have HEF:=Lib.hid hef;clear hef;go_wp2;go_quiet (fail)
     go_wp2;go_ret;refine⟨b1L ?_,by repeat (first | exact Bel.rfl_ _ | apply Bel.drN)⟩;have:=b7i HE.out HF.out HEF.out;simp[this]
   ·go_wp2;go_ret;refine⟨b1L ?_,by repeat (first | exact Bel.rfl_ _ | apply Bel.drN)⟩;have h1:=ht.out;rw[List.take_of_length_le (by omega),List.take_of_length_le (by omega)] at h1;simp[h1]
 ·have hlen:((xs.length:Int) != (ys.length:Int))=true:=by rw[bne_iff_ne];omega
  have HL:=Lib.hid hl;clear hl;go_enter Try.func125,Try.ntmps125;go_wp2;go_ret;refine⟨b1L ?_,Bel.rfl_ w⟩;have:xs≠ys:=fun h=>HL.out (by rw[h]);simp[this]
theorem Sl.own_ev{w:World}{base:Nat}{t:TypeId}{v:Value}{n:Nat}{xs:List Ev}(h:w.ownsRow base t 6 v n (xs.flatMap Ev.cells))(hn:n=xs.length):Sl evR w v xs:=
 Sl.own (r:=evR) h hn fun k x hx=>by
  show _=x.cells;show((xs.flatMap Ev.cells).drop (k*6)).take 6=x.cells;clear h hn;induction xs generalizing k with
  | nil=>simp at hx
  | cons y ys ih =>
   cases k with
   | zero =>
    obtain rfl:y=x:=by simpa using hx
    simp[Ev.cells]
   | succ k =>
    rw[List.flatMap_cons,show(k+1)*6=y.cells.length+k*6 by simp[Ev.cells];omega,List.drop_append];simp;have:=ih k (by simpa using hx);rw[show y.cells.drop (y.cells.length+k*6)=[] from List.drop_eq_nil_of_le (by omega)]
    simpa using this
theorem c4U:∃i z,Try.prog.info? MCT=some i∧i.zero=some z∧i.size=9∧i.bytes=136∧z.cells.size=9:=by
 obtain⟨i,hi,h0,h1,h2⟩:=info_parts (P:=Try.prog) (e:=MCT) (z:=.agg #[.slice none 0 0,.slice none 0 0,.int .i64 0,.int .i64 0,.int .i64 0,.int .i64 0,.slice none 0 0,.slice none 0 0,.bool false]) (size:=9) (bytes:=136) (by kernel_rfl);exact⟨i,_,hi,h0,h1,h2,rfl⟩
theorem c3y(A B:Option Addr)(n c n2 c2:Nat)(fuel:Int):∀u∈[Value.slice A n c,.slice B n2 c2,.int .i64 0,.int .i64 fuel,.int .i64 0,.int .i64 1,.slice none 0 0,.slice none 0 0,.bool false],u.oneCell'=true:=fun u hu=>by
 simp at hu;rcases hu with rfl | rfl | rfl | rfl | rfl | rfl | rfl | rfl | rfl<;>rfl
theorem MacD.begin_{w W:World}{ps:List PF}{fuel:Int}{inp:List Int}{q:Nat}{vp vin:Value}(hb:Bel w W)(hq:w.heap.size≤q)(hB:Blk W q MCT (zQ1 vp vin (.int .i64 fuel) (.int .i64 1) (.bool false)))(hs:Sl pfR w vp ps)(hi:Sl b2l w vin inp) :
  MacD w ps fuel inp q W { inp:=inp,steps:=0,made:=1,out:=[],over:=false,frames:=[] } vp vin (.slice none 0 0) (.slice none 0 0) 0 []:=
 ⟨hb,hq,hB,hs,hi,rfl,Int.le_refl _,World.ownsRow_nil _ _ _ _,⟨World.ownsRow_nil _ _ _ _,rfl,fun i f x h=>by simp at h,List.nodup_nil,List.nodup_nil⟩⟩
theorem b3S{w:World}{ps:List PF}(hp:Prog ps){fuel:Int}{inp:List Int}{vp vin:Value}(hs:Sl pfR w vp ps)(hi:Sl b2l w vin inp)(hin:∀n∈inp,Num n)(hinl:inp.length≤1000000)(hf0:0≤fuel)(hfu:fuel≤10000) :
  Calls Try.prog 30 #[.agg #[vp],vin,.int .i64 fuel] w fun r w'=>∃out u,r=.returned u∧Sl evR w' u out∧Ran ps inp fuel out∧Bel w w':=by
 obtain⟨k,hk⟩:∃k,ps.length=k+1:=⟨ps.length-1,by have:=hp.pos;omega⟩;obtain⟨G,hG⟩:∃G,ps[k]? = some G:=⟨_,List.getElem?_eq_getElem (by omega)⟩;obtain⟨Ap,cp,rfl,-⟩:=b0R hs;obtain⟨Ai,ci,rfl,-⟩:=b0R hi;obtain⟨bp,op,csG,rfl,HG,hgc⟩:=hs.elem hG;obtain⟨vz,vc,vr,rfl,hsz,hsc,hsr⟩:=HG;obtain⟨Az,cz,rfl,-⟩:=b0R hsz;obtain⟨Ac,cc,rfl,-⟩:=b0R hsc;have HB1:Bel w (w.alloc (.cells #[.slice (some ⟨bp,op,none⟩) ps.length cp] PGT)):=(Bel.rfl_ w).al _;have HP1:=Blk.new w PGT #[.slice (some ⟨bp,op,none⟩) ps.length cp];have hz1:w.cell? ⟨bp,op+k*6+1,none⟩=some (.slice Az G.sizes.length cz):=hgc 1 _ rfl;have hz2:w.cell? ⟨bp,op+k*6+2,none⟩=some (.slice Ac G.cmds.length cc):=hgc 2 _ rfl;have hfc:=b4N ps k G hG;have hmany:=hp.many;have hsix:=hp.six;refine b1H (c:=_) (args:=[.agg #[.slice (some ⟨bp,op,none⟩) ps.length cp],.slice Ai inp.length ci,.int .i64 fuel]) Try.func30 rfl Try.ntmps30 (by kernel_rfl) ?_;refine b0G ?_;refine b0D ?_;refine b1n (some 3) (.pointer (some ⟨w.heap.size,0,none⟩)) (w.alloc (.cells #[.slice (some ⟨bp,op,none⟩) ps.length cp] PGT)) ?_;generalize w.alloc (.cells #[.slice (some ⟨bp,op,none⟩) ps.length cp] PGT)=W1 at *;generalize hGP:w.heap.size=GP at *;refine b0B (some 6) (.slice none 0 0) ?_;refine b0H ?_;refine b0E ?_;refine b0G ?_;refine b0D ?_;refine b0B (some 10) (.pointer (some ⟨GP,0,none⟩)) ?_;refine b0F (some 11) (.slice (some ⟨bp,op,none⟩) ps.length cp) (b3X rfl (by kernel_rfl) (HP1.cell (i:=0) rfl)) ?_;refine b0B (some 12) (.int .i64 ps.length) ?_;refine b0F (some 13) (.int .i64 (k:Int)) (b0n (k:=ps.length) (l:=1) (by omega) (by omega) (by omega)) ?_;refine b0B (some 7) (.int .i64 (k:Int)) ?_;refine b0H ?_;refine b0E ?_;refine b0G ?_;refine b0D ?_;refine b0F (some 14) (.agg #[.slice (some ⟨bp,op,none⟩) ps.length cp]) (b1b (HP1.cell (i:=0) rfl)) ?_;refine b0B (some 15) (.slice Ai inp.length ci) ?_;refine b0B (some 16) (.int .i64 fuel) ?_
 refine b0B (some 17) (.agg (zQ1 (.slice (some ⟨bp,op,none⟩) ps.length cp) (.slice Ai inp.length ci) (.int .i64 fuel) (.int .i64 1) (.bool false))) ?_;refine c1H MCT 17 8 ⟨rfl,rfl⟩ ⟨rfl,rfl⟩ ⟨(by kernel_rfl),(by kernel_rfl)⟩ [.slice (some ⟨bp,op,none⟩) ps.length cp,.slice Ai inp.length ci,.int .i64 0,.int .i64 fuel,.int .i64 0,.int .i64 1,.slice none 0 0,.slice none 0 0,.bool false] (fun _=>rfl) (fun _=>rfl) c4U rfl (c3y _ _ _ _ _ _ _) ?_;have HB2:=HB1.al (.cells (zQ1 (.slice (some ⟨bp,op,none⟩) ps.length cp) (.slice Ai inp.length ci) (.int .i64 fuel) (.int .i64 1) (.bool false)) MCT);have HQ:=Blk.new W1 MCT (zQ1 (.slice (some ⟨bp,op,none⟩) ps.length cp) (.slice Ai inp.length ci) (.int .i64 fuel) (.int .i64 1) (.bool false));have HP2:=HP1.keep ((Bel.rfl_ W1).al (.cells (zQ1 (.slice (some ⟨bp,op,none⟩) ps.length cp) (.slice Ai inp.length ci) (.int .i64 fuel) (.int .i64 1) (.bool false)) MCT));have hq:w.heap.size≤W1.heap.size:=HB1.size;generalize W1.alloc (.cells (zQ1 (.slice (some ⟨bp,op,none⟩) ps.length cp) (.slice Ai inp.length ci) (.int .i64 fuel) (.int .i64 1) (.bool false)) MCT)=W2 at *;generalize W1.heap.size=q at *;have HM:=MacD.begin_ HB2 hq HQ hs hi;refine b0H ?_;refine b0E ?_;refine b0G ?_;have HP3:=HP2;refine b0D ?_;refine b0B (some 18) (.int .i64 (k:Int)) ?_;refine b0B (some 19) (.pointer (some ⟨GP,0,none⟩)) ?_;refine b0F (some 20) (.slice (some ⟨bp,op,none⟩) ps.length cp) (b3X rfl (by kernel_rfl) (HP3.cell (i:=0) rfl)) ?_;refine b0B (some 21) (.int .i64 (k:Int)) ?_;refine b0F (some 22) (.pointer (some ⟨bp,op+k*6,none⟩)) (b0t b6L bp op ps.length cp k (by omega)) ?_;refine b0B (some 23) (.pointer (some ⟨bp,op+k*6+1,none⟩)) ?_;refine b0F (some 24) (.slice Az G.sizes.length cz) (b1F (HB2.cell hz1)) ?_;refine b0a (some 25) 50 #[.slice Az G.sizes.length cz] (b1w G.sizes (hp.fns _ _ hG).sz (by have:=(hp.fns _ _ hG).var6;have:=(hp.fns _ _ hG).par3;omega) _ _ (hsz.keep HB2)) ?_;rintro r W3 ⟨u,rfl,HV,HB3⟩
 obtain⟨Bu,bu,rfl⟩:∃A c,u=.slice A (b0c G.sizes).length c:=by obtain⟨gs,hv⟩:=HV;exact b1i hv.row
 refine⟨_,rfl,?_⟩;refine b0B (some 26) (.agg (zQ0 (.bool false) (.bool true))) ?_;refine b1n (some 27) (.slice (some ⟨W3.heap.size,0,none⟩) 1 1) (W3.alloc (.cells (zQ0 (.bool false) (.bool true)) TKT)) ?_;have hb4:=(Bel.rfl_ W3).al (.cells (zQ0 (.bool false) (.bool true)) TKT);have HTB:Blk _ _ TKT c4Q.toArray:=Blk.new W3 TKT (zQ0 (.bool false) (.bool true));have htl:W2.heap.size≤W3.heap.size:=HB3.size;generalize W3.alloc (.cells (zQ0 (.bool false) (.bool true)) TKT)=W4 at *;generalize W3.heap.size=tb at *;refine b0B (some 28) (.agg #[.int .i64 0,.int .i64 (k:Int),.int .i64 (-1),.slice Bu (b0c G.sizes).length bu,.slice (some ⟨tb,0,none⟩) 1 1]) ?_;refine c3b FRT 28 9 ⟨rfl,rfl⟩ ⟨rfl,rfl⟩ ⟨(by kernel_rfl),(by kernel_rfl)⟩ [.int .i64 0,.int .i64 (k:Int),.int .i64 (-1),.slice Bu (b0c G.sizes).length bu,.slice (some ⟨tb,0,none⟩) 1 1] (fun _=>rfl) (fun _=>rfl) b5z rfl (b2y _ _ _ _ _ _ _ _) ?_;have hb5:=(Bel.rfl_ W4).al (.cells #[.int .i64 0,.int .i64 (k:Int),.int .i64 (-1),.slice Bu (b0c G.sizes).length bu,.slice (some ⟨tb,0,none⟩) 1 1] FRT);have HFB:=Blk.new W4 FRT #[.int .i64 0,.int .i64 (k:Int),.int .i64 (-1),.slice Bu (b0c G.sizes).length bu,.slice (some ⟨tb,0,none⟩) 1 1];have hgl:W2.heap.size≤W4.heap.size:=(HB3.tr hb4).size;generalize W4.alloc (.cells #[.int .i64 0,.int .i64 (k:Int),.int .i64 (-1),.slice Bu (b0c G.sizes).length bu,.slice (some ⟨tb,0,none⟩) 1 1] FRT)=W5 at *;generalize W4.heap.size=gn at *;obtain⟨gs,HVG⟩:=HV.keep (hb4.tr hb5);have HNF:NewFr w W2 W5 gn 0 k G.sizes (.slice Bu (b0c G.sizes).length bu) gs tb:=⟨HB3.tr (hb4.tr hb5),hgl,HFB,HVG,TasksT.one (HTB.keep hb5) (Nat.le_trans HB2.size htl) (c3p w) rfl,htl⟩;refine b0H ?_;refine b0E ?_;refine b0G ?_;refine b1T (fun W=>W.cell? ⟨GP,0,none⟩=some (.slice (some ⟨bp,op,none⟩) ps.length cp)∧W.cell? ⟨bp,op+k*6+2,none⟩=some (.slice Ac G.cmds.length cc)) (by kernel_rfl) (⟨(HP2.keep (HNF.bel.tr (Bel.rfl_ W5).dr)).cell (i:=0) rfl,(HB2.tr (HNF.bel.tr (Bel.rfl_ W5).dr)).cell hz2⟩) (b0k b1J) ?_
 have HN8:=HNF.keep (Bel.rfl_ W5).dr;have HP8:=HP2.keep (HNF.bel.tr (Bel.rfl_ W5).dr);have HB8:=HB2.tr (HNF.bel.tr (Bel.rfl_ W5).dr);generalize W5.drew=W8 at *;refine b0C 0 (some 29) (.pointer (some ⟨GP,0,none⟩)) rfl (fun W hW=>by kernel_rfl) ?_;refine b0C 1 (some 30) (.slice (some ⟨bp,op,none⟩) ps.length cp) rfl (fun W hW=>b3X rfl (by kernel_rfl) hW.1) ?_;refine b0C 2 (some 31) (.int .i64 (k:Int)) rfl (fun W hW=>by kernel_rfl) ?_;refine b0C 3 (some 32) (.pointer (some ⟨bp,op+k*6,none⟩)) rfl (fun W hW=>b0t b6L bp op ps.length cp k (by omega)) ?_;refine b0C 4 (some 33) (.pointer (some ⟨bp,op+k*6+2,none⟩)) rfl (fun W hW=>by kernel_rfl) ?_;refine b0C 5 (some 34) (.slice Ac G.cmds.length cc) rfl (fun W hW=>b0p hW.2) ?_;refine b0C 6 (some 35) (.agg #[.slice (some ⟨bp,op,none⟩) ps.length cp]) rfl (fun W hW=>b1b hW.1) ?_;refine b0C 7 (some 36) (.int .i64 (k:Int)) rfl (fun W hW=>by kernel_rfl) ?_;refine b1m 8 (some 37) rfl (by kernel_rfl) 75 #[.agg #[.slice (some ⟨bp,op,none⟩) ps.length cp],.int .i64 (k:Int)] (by kernel_rfl) (b4w ps hp k (by omega) _ W8 (hs.keep HB8)) ?_;rintro r W9 ⟨rfl,hb⟩;have HN9:=HN8.keep hb;have HP9:=HP8.keep hb;have HB9:=HB8.tr hb;have HB29:=HN9.bel;clear hb;refine⟨_,rfl,⟨HP9.cell (i:=0) rfl,HB9.cell hz2⟩,?_⟩;refine b1m 9 (some 38) rfl (by kernel_rfl) 74 #[.pointer (some ⟨gn,0,none⟩),.slice Ac G.cmds.length cc,.int .i64 (b0l ps k)] (by kernel_rfl) (b4Q gn 0 tb _ (.slice (some ⟨tb,0,none⟩) 1 1) _ [.back] G.cmds (b0l ps k) HB9 (Nat.le_trans HB2.size HN9.lo) HN9.blk rfl HN9.tasks hsc (by omega) (by omega) (by omega) (by simp) (by have:=b2S G.cmds;omega)) ?_;rintro r W10 ⟨rfl,vt3,tb2,HPD⟩;obtain⟨tcur,HTC⟩:=HN9.tasks.has;have hkeep:∀k t cs,t≠FRT→t≠TKT→Blk W9 k t cs→Blk W10 k t cs:=fun k t cs h1 h2 hB=>HPD.rest k t cs (hB.ne HN9.blk h1) (hB.ne HTC h2) hB;have hold:∀k t cs,Blk W2 k t cs→Blk W10 k t cs:=fun k t cs hB=>HPD.rest k t cs (by have:=hB.lt;have:=HNF.lo;omega) (by have:=hB.lt;have:=HNF.tlo;omega) (hB.keep HB29)
 have HM10:=HM.far HPD.low (fun k t cs _ hB=>hold k t cs hB) (fun y hy=>by simp at hy);have HP10:=hkeep _ _ _ (by decide) (by decide) HP9;obtain⟨Bv,bv,rfl⟩:=b1i HPD.tasks.row.choose_spec.1;have HFD0:FrD w W10 ⟨0,k,-1,b0c G.sizes,b1G G.cmds (b0l ps k)++[.back]⟩ ⟨.slice Bu (b0c G.sizes).length bu,.slice Bv _ bv,gs,tb2⟩:=⟨(HN9.vars.to (b2K HN9.vars.row fun k cs _ hB=>hkeep k b4b cs (by decide) (by decide) hB) fun g l hB=>hkeep g INT _ (by decide) (by decide) hB).baseM HB2.size,HPD.tasks⟩;generalize htl:(b1G G.cmds (b0l ps k)++[Tk.back]).length=tl at *;have HBn:Blk W10 gn FRT #[.int .i64 0,.int .i64 (k:Int),.int .i64 (-1),.slice Bu (b0c G.sizes).length bu,.slice Bv tl bv]:=HPD.blk;refine⟨_,rfl,⟨HP10.cell (i:=0) rfl,Bel.cell HPD.low hz2⟩,?_⟩;refine b0f ?_;refine b0E ?_;refine b0G ?_;refine b0D ?_;refine b0B (some 39) (.pointer (some ⟨q,6,none⟩)) ?_;refine b0F (some 40) (.slice none 0 0) (b2w rfl (by kernel_rfl) (HM10.blk.cell (i:=6) rfl)) ?_;refine b0F (some 41) (.agg #[.int .i64 0,.int .i64 (k:Int),.int .i64 (-1),.slice Bu (b0c G.sizes).length bu,.slice Bv tl bv]) (b0S FRT (.tmp 9) b5z gn 0 [.int .i64 0,.int .i64 (k:Int),.int .i64 (-1),.slice Bu (b0c G.sizes).length bu,.slice Bv tl bv] (b0g HBn 0 rfl) rfl) ?_;refine b1n (some 42) (.slice (some ⟨W10.heap.size,0,none⟩) 1 1) (W10.alloc (.cells #[.int .i64 0,.int .i64 (k:Int),.int .i64 (-1),.slice Bu (b0c G.sizes).length bu,.slice Bv tl bv] FRT)) ?_;refine b3z (some 43) W10 (.tmp 40) (.tmp 42) 116 (by kernel_rfl) rfl rfl w.heap.size b5z (.slice none 0 0) 0 [] (by kernel_rfl) (by kernel_rfl) HM10.frs.row [.int .i64 0,.int .i64 (k:Int),.int .i64 (-1),.slice Bu (b0c G.sizes).length bu,.slice Bv tl bv] (by kernel_rfl) (by kernel_rfl) rfl (b2y _ _ _ _ _ _ _ _) (by simp only[maxLen];omega) (by omega) HM10.low.size ?_;intro g6 cap6 w6 ho6 hg6 hwh;have hbq6:=HM10.blk.grown hg6 (Blk.ne_own HM10.blk HM10.frs.row (by decide));have HD13:=HM10.push_frame HFD0 hg6 ho6 HNF.vars.nd (fun _ _ y hy=>by simp at hy) (fun y hy=>by simp at hy)
 refine b0B (some 44) (.pointer (some ⟨q,6,none⟩)) ?_;refine b5F none (by kernel_rfl) (by kernel_rfl) (b7l (A:=some ⟨g6,0,none⟩) (n:=1) (c:=cap6) rfl (by kernel_rfl) (by kernel_rfl) (hbq6.cell (i:=6) rfl) (hbq6.frozen 6)) ?_;refine b0H ?_
 have HST:c1L w ps fuel inp q (w6.setCell ⟨q,6,none⟩ (.slice (some ⟨g6,0,none⟩) 1 cap6)) (b1R ps inp):=by
  unfold b1R;rw[hk,Nat.add_sub_cancel,b1A hG];rw[show(((k+1:Nat):Int)-1)=(k:Int) by omega];exact⟨_,_,_,_,_,_,HD13⟩
 generalize w6.setCell ⟨q,6,none⟩ (.slice (some ⟨g6,0,none⟩) 1 cap6)=W11 at *;obtain⟨f0,hg0⟩:=Good.start hp hin hf0
 have htb0:TB (b1R ps inp):=by
  refine⟨Int.le_refl _,fun y hy=>?_⟩;unfold b1R at hy;dsimp only at hy;obtain rfl:=List.mem_singleton.1 hy;have:=b2S G.cmds;show((b1G _ _++[Tk.back]).length:Int)≤50*(0+1);rw[List.length_append,b1u,hk,Nat.add_sub_cancel,b1A hG];simp only[List.length_cons,List.length_nil];omega
 refine b0E ?_;refine b0G ?_;refine b0e ?_;refine b1e (α:=Mc) (fun M W=>c1L w ps fuel inp q W M∧Reach ps fuel (b1R ps inp) M∧TB M∧(M.over=true∨∃f rest,Good ps fuel M f rest)) (fun M=>[(8,.pointer (some ⟨q,0,none⟩))]) (fun M=>if M.over then 0 else(3*fuel+6-3*M.steps+M.frames.length).toNat+1) (b1R ps inp) [8] (by kernel_rfl) ⟨HST,Reach.rfl_ _,htb0,.inr ⟨_,_,hg0⟩⟩ ?_;clear HST htb0 hg0;rintro M WC ⟨⟨vp2,vin2,vfr,vout,taken,xs,HL⟩,hR,htb,hgo⟩;obtain⟨zb0,hzb0⟩:∃b:Bool,M.over=b:=⟨_,rfl⟩;refine b0G ?_;refine b0G ?_;refine b0D ?_;refine b0B (some 45) (.pointer (some ⟨q,8,none⟩)) ?_;refine b0F (some 46) (.bool zb0) (b8R rfl (by kernel_rfl) (HL.blk.cell (i:=8) (by rw[hzb0];rfl))) ?_;obtain⟨zr1,hzr1⟩:∃b:Bool,(!zb0)=b:=⟨_,rfl⟩;refine b0F (some 47) (.bool zr1) (by subst hzr1;kernel_rfl) ?_;refine b0H ?_;refine b0E ?_;cases zr1 with
 | true =>
  have hov:M.over=false:=by rw[hzb0];simpa using hzr1
  obtain⟨f,rest,hgd⟩:=hgo.resolve_left (by rw[hov];decide);refine b0P ?_;refine b0X ?_;refine b0E ?_;refine b0e ?_;refine b0D ?_;refine b0a (some 48) 76 #[.pointer (some ⟨q,0,none⟩)] (c2v ⟨_,_,_,_,_,_,HL⟩ hp hgd htb hfu hinl) ?_;rintro r WD ⟨rfl,HN⟩;refine⟨_,rfl,?_⟩;refine b0H ?_;refine b0Q ?_;have hst:=Good.step hp hgd;have hR2:Reach ps fuel (b1R ps inp) (M.do_ ps fuel):=hR.tr (Reach.one hov rfl);have htb2:=htb.step hp hgd;refine b0V (M.do_ ps fuel) [8] ⟨⟨HN,hR2,htb2,hst.2.imp id fun h=>⟨_,_,h.choose_spec.choose_spec.1⟩⟩,?_⟩;rw[hov];rcases hst.2 with h | ⟨f2,r2,hg2,hlt⟩
  ·rw[h];simp
  ·rw[hg2.on,hgd.fr,hg2.fr];have h1:=hgd.s1;have h2:=hg2.s1;simp only[List.length_cons];simp only[Bool.false_eq_true,if_false];omega
 | false =>
  have hov:M.over=true:=by rw[hzb0];simpa using hzr1
  refine b0K ?_;refine b1d ?_;refine b0T ?_;refine b0T ?_;refine b0h ?_;refine b0E ?_;refine b0G ?_;refine b0D ?_;refine b0B (some 49) (.pointer (some ⟨q,7,none⟩)) ?_;refine b0F (some 50) (vout) (b8t rfl (by kernel_rfl) (HL.blk.cell (i:=7) rfl)) ?_;refine b0B (some 6) (vout) ?_;refine b0H ?_;refine b0E ?_;refine b0x ?_;refine b0d 6 (vout) ?_;exact⟨M.out,_,rfl,Sl.own_ev HL.out rfl,⟨M,hR,hov,rfl⟩,HL.low⟩
end Go.Proofs.Ytgkpplbomciehaa
