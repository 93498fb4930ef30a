/- A function, by the program's checker: walked. Each lemma states its own conditions. -/
import Derived.Test.YtgkpplbomciehaaStt11
namespace Go.Proofs.Ytgkpplbomciehaa
set_option maxRecDepth 20000
set_option maxHeartbeats 8000000
open Go.RowKit
abbrev ERT:TypeId:=28
abbrev PCT:TypeId:=153
theorem c3Q{o:Oper}{ρ:Operand→Value}{W:World}{x:Operand}{b f:Nat}{v:Value}(ho:o.op=.load PCT x)(hx:ρ x=.pointer (some ⟨b,f,none⟩))(hc:W.cell? ⟨b,f,none⟩=some v):(execOp ρ o).run Try.prog W=.ok (.value v) W:=by
 simp[execOp,ho,hx,hc,go_sem]
theorem c4M{P:Program}{ops:Array Oper}{Q:Exit→Act→World→Prop}{rest:List Oper}{o:Oper}{a:Act}{w:World}(d:Option Tmp)(w':World)(hd:o.dst=d)(hw:Region.wanted o (yielded ops a.tmps)=true)(hrun:(execOp a.eval o).run P w=.ok .skip w')(h:WL P ops Q rest (a.put d undef) w'):WL P ops Q (o::rest) a w:=
 ⟨wpList_step fun K hK=>by
  subst hd;rw[if_pos hw];unfold Oper.wp;rw[hrun,Oper.upon_skip];exact hK _ _ h.out⟩
theorem c4G{o:Oper}{ρ:Operand→Value}{W:World}{x y:Operand}{b f:Nat}{v:Value}{n:Int}(ho:o.op=.store ERT x y)(hx:ρ x=.pointer (some ⟨b,f,none⟩))(hy:ρ y=.int .i64 n)(hc:W.cell? ⟨b,f,none⟩=some v)(hf:W.frozen? ⟨b,f,none⟩=false):(execOp ρ o).run Try.prog W=.ok .skip (W.setCell ⟨b,f,none⟩ (.int .i64 n)):=by
 simp[execOp,ho,hx,hy,hc,hf,go_sem]
theorem c1X(w0 ws:World)(ps:List PF)(f:PF)(calls:Int)(g PV R:Nat)(hR:w0.heap.size≤R)(hws:Bel w0 ws)(hm:c2N w0 ws ps f calls g)(hpv:Blk ws PV PCT #[.pointer (some ⟨g,0,none⟩)])(hPR:PV≠R)(hgR:g≠R)
  (hz0:∀n∈f.sizes,0≤n) (hcl:calls≤(ps.length:Int)) (hps:∀(i:Nat) gg,ps[i]? = some gg→(i:Int)<calls→gg.params≤3) :
  c1M 140 #[.pointer (some ⟨PV,0,none⟩),.pointer (some ⟨R,0,none⟩)] ERT (b9P (ps.map PF.params) f.sizes calls) Ok0 w0 ws R:=by
 intro x d s cs W hok hcs hg hb;obtain⟨rfl,-⟩:=hok
 have HCM:=Lib.hid (fun W' (hb:Bel W W')=>c2l w0 W' ps f calls g x cs (by
  obtain⟨vp,c,h1,h2,h3⟩:=hm;exact⟨vp,c,(h1.grown hg (by simpa using hgR)).keep hb,h2,h3⟩) ((b3n hws hR hg).tr hb) hz0 hcl hps hcs)
 have HP:Hid (b9P (ps.map PF.params) f.sizes calls 0 x d=(x.own (ps.map PF.params) f.sizes calls,decide (x.own (ps.map PF.params) f.sizes calls=0))):=Lib.hid rfl;generalize b9P (ps.map PF.params) f.sizes calls 0 x d=T at *;generalize x.own (ps.map PF.params) f.sizes calls=E at *;obtain⟨vi,ve,va,vt,vs,rfl,-⟩:=b1Z hcs;generalize x.kind=xk at *;generalize x.var=xv at *;generalize x.fn=xf at *;generalize x.index.kind=ik at *;generalize x.index.n=iN at *;generalize x.expr.kind=ek at *;generalize x.expr.n=eN at *;have HB:Hid (Bel W (W.alloc (.cells #[.int .i64 xk,.int .i64 xv,.int .i64 xf,.int .i64 ik,.int .i64 iN,vi,.int .i64 ek,.int .i64 eN,ve,va,vt,vs] 120))):=Lib.hid ((Bel.rfl_ W).al _);have HK:=Lib.hid (Blk.new W 120 #[.int .i64 xk,.int .i64 xv,.int .i64 xf,.int .i64 ik,.int .i64 iN,vi,.int .i64 ek,.int .i64 eN,ve,va,vt,vs]);have HPV:=Lib.hid ((hpv.grown hg (by simpa using hPR)).keep HB.out);have HBR:=Lib.hid (hb.keep HB.out);clear hb hcs hg hpv;show Calls Try.prog 140 #[.agg #[.int .i64 xk,.int .i64 xv,.int .i64 xf,.int .i64 ik,.int .i64 iN,vi,.int .i64 ek,.int .i64 eN,ve,va,vt,vs],.int .i64 d,.pointer (some ⟨PV,0,none⟩),.pointer (some ⟨R,0,none⟩)] W _;go_enter Try.func140,Try.ntmps140;go_upto_region 1 with fail;generalize W.alloc _=W1 at *;generalize W.heap.size=KX at *;refine b1K ?_;try dsimp only[List.append]
 refine b0M (some 7) (.pointer (some ⟨g,0,none⟩)) (c3Q rfl (by kernel_rfl) (HPV.out.cell (i:=0) (v:=.pointer (some ⟨g,0,none⟩)) rfl)) ?_;refine b0M (some 8) (.agg #[.int .i64 xk,.int .i64 xv,.int .i64 xf,.int .i64 ik,.int .i64 iN,vi,.int .i64 ek,.int .i64 eN,ve,va,vt,vs]) (b0S 120 (.tmp 4) b5x KX 0 [.int .i64 xk,.int .i64 xv,.int .i64 xf,.int .i64 ik,.int .i64 iN,vi,.int .i64 ek,.int .i64 eN,ve,va,vt,vs] (b0g HK.out 0 rfl) rfl) ?_;refine b0s (some 9) 141 #[.pointer (some ⟨g,0,none⟩),.agg #[.int .i64 xk,.int .i64 xv,.int .i64 xf,.int .i64 ik,.int .i64 iN,vi,.int .i64 ek,.int .i64 eN,ve,va,vt,vs]] (HCM.out _ HB.out) ?_;rintro r W3 ⟨rfl,hb⟩;replace HB:=Lib.hid (HB.out.tr hb);replace HBR:=Lib.hid (HBR.out.keep hb);clear hb;refine⟨_,rfl,?_⟩;have hfr:=HBR.out.frozen 0;refine c4M none (W3.setCell ⟨R,0,none⟩ (.int .i64 E)) rfl (by kernel_rfl) (c4G rfl (by kernel_rfl) (by kernel_rfl) (HBR.out.cell (i:=0) rfl) hfr) ?_;refine b0o ?_;try simp only[Act.put,List.setIfInBounds_toArray,List.set_cons_zero,List.set_cons_succ]
 have HBS:Hid (Blk (W3.setCell ⟨R,0,none⟩ (.int .i64 E)) R ERT #[.int .i64 E]):=Lib.hid (HBR.out.set_ 0 (.int .i64 E));have HGS:Hid (W.grownBy (W3.setCell ⟨R,0,none⟩ (.int .i64 E)) (some R)):=Lib.hid ((HB.out.grown (some R)).trans (b3c W3 R 0 (.int .i64 E)));generalize W3.setCell ⟨R,0,none⟩ (.int .i64 E)=W4 at *;have x0:=HBS.out.cell (i:=0) (v:=.int .i64 E) rfl;by_cases hE:E=0
 ·subst hE;go_wp2;go_ret;exact⟨by rw[HP.out];rfl,HGS.out,by rw[HP.out];exact HBS.out⟩
 ·have dE:(E==0)=false:=by simpa using hE
  go_wp2;go_ret;exact⟨by rw[HP.out,decide_eq_false hE];rfl,HGS.out,by rw[HP.out];exact HBS.out⟩
theorem c1Y(pms:List Int)(calls:Int)(main:Bool)(f:PF):f.err pms calls main=orE (b5d main f) (orE (b1U pms f.sizes calls f.cmds) (if main then(if f.result.none_ then 0 else 1) else f.result.err f.sizes)):=by
 unfold PF.err b5d;by_cases h1:f.params<0∨(f.sizes.length:Int)<f.params
 ·rw[if_pos h1,if_pos h1,b1I (a:=3) (by decide)]
 rw[if_neg h1,if_neg h1];by_cases h2:3<f.params∨6<(f.sizes.length:Int)-f.params
 ·rw[if_pos h2,if_pos h2,b1I (a:=2) (by decide)]
 rw[if_neg h2,if_neg h2];by_cases h3:f.sizes.all (fun n=>decide (0≤n∧n≤8))=false
 ·rw[if_pos h3,if_pos h3,b1I (a:=3) (by decide)]
 rw[if_neg h3,if_neg h3];by_cases h4:(f.sizes.take f.params.toNat).all (fun n=>decide (n=0))=false∨(main=true∧0<f.params)
 ·rw[if_pos h4,if_pos h4,b1I (a:=1) (by decide)]
 ·rw[if_neg h4,if_neg h4,b4E]
theorem b6l{main:Bool}{f:PF}(h:b5d main f=0):(∀n∈f.sizes,0≤n)∧f.params≤3:=by
 unfold b5d at h;by_cases h1:f.params<0∨(f.sizes.length:Int)<f.params
 ·rw[if_pos h1] at h;omega
 rw[if_neg h1] at h;by_cases h2:3<f.params∨6<(f.sizes.length:Int)-f.params
 ·rw[if_pos h2] at h;omega
 rw[if_neg h2] at h;by_cases h3:f.sizes.all (fun n=>decide (0≤n∧n≤8))=false
 ·rw[if_pos h3] at h;omega
 have h3:f.sizes.all (fun n=>decide (0≤n∧n≤8))=true:=by simpa using h3
 rw[List.all_eq_true] at h3;exact⟨fun n hn=>(of_decide_eq_true (h3 n hn)).1,by omega⟩
theorem c3u(w0 w:World)(ps:List PF)(f:PF)(calls:Int)(g:Nat)(main:Bool)(hm:c2N w0 w ps f calls g)(hb0:Bel w0 w)(hf:b1P f.cmds 1=true)(hcl:calls≤(ps.length:Int))(hps:f.params≤3→∀(i:Nat) gg,ps[i]? = some gg→(i:Int)<calls→gg.params≤3) :
  Calls Try.prog 98 #[.pointer (some ⟨g,0,none⟩),.bool main] w fun r w'=>r=.returned (.int .i64 (f.err (ps.map PF.params) calls main))∧Bel w w':=by
 have HH:=Lib.hid (fun W (hb:Bel w W)=>c1c w0 W ps f calls g main (hm.keep hb) (hb0.tr hb));have hg:=hm.cells.elim fun vp h=>h.elim fun vz h=>h.elim fun vc h=>h.elim fun vr h=>h.1.lt
 have HWK:=Lib.hid (fun(h0:b5d main f=0) ws R vc (hR:w.heap.size<R) (hws:Bel w ws) (hpv:Blk ws w.heap.size PCT #[.pointer (some ⟨g,0,none⟩)]) (hbk:Blk ws R ERT #[.int .i64 0]) (hv:Sl pcR w0 vc f.cmds) =>
  c1I (.pointer (some ⟨w.heap.size,0,none⟩)) (.pointer (some ⟨R,0,none⟩)) ERT (b9P (ps.map PF.params) f.sizes calls) Ok0 (fun _ _ _ h=>h.2) w0 ws R (Nat.le_trans hb0.size (Nat.le_of_lt hR)) (hb0.tr hws)
   (c1X w0 ws ps f calls g w.heap.size R (Nat.le_trans hb0.size (Nat.le_of_lt hR)) (hb0.tr hws) (hm.keep hws) hpv (by omega) (by omega) (b6l h0).1 hcl (hps (b6l h0).2)) f.cmds 1 0 vc ws (b7U (ps.map PF.params) f.sizes calls f.cmds 1 hf (by decide)).2 hv (World.grownBy.refl _ _) hbk)
 have HWP:=Lib.hid (b7U (ps.map PF.params) f.sizes calls f.cmds 1 hf (by decide)).1;have HT:Hid (f.err (ps.map PF.params) calls main=orE (b5d main f) (orE (b1U (ps.map PF.params) f.sizes calls f.cmds) (if main then(if f.result.none_ then 0 else 1) else f.result.err f.sizes))):=Lib.hid (c1Y _ _ _ _);obtain⟨vp,vz,vc,vr,hbk,hvp,hz,hc,hr⟩:=hm.cells;have HNO:=Lib.hid (fun W (hb:Bel w0 W)=>b6r f.result (.agg #[.int .i64 f.result.kind,.int .i64 f.result.n,vr]) W ⟨_,rfl,hr.keep hb⟩);have HEX:=Lib.hid (fun(h0:b5d main f=0) W (hb:Bel w0 W)=>b8m f.sizes (b6l h0).1 f.result (.agg #[.int .i64 f.result.kind,.int .i64 f.result.n,vr]) vz W ⟨_,rfl,hr.keep hb⟩ (hz.keep hb));have HC:=Lib.hid hc;obtain⟨Az,cz,rfl,-⟩:=b0R hz;obtain⟨Ac,cc,rfl,-⟩:=b0R hc;obtain⟨Ar,cr,rfl,-⟩:=b0R hr;have HB0:=Lib.hid hb0;have HBK:=Lib.hid hbk;have HX:Hid (Bel w (w.alloc (.cells #[.pointer (some ⟨g,0,none⟩)] PCT))):=Lib.hid ((Bel.rfl_ w).al _);have HPV:=Lib.hid (Blk.new w PCT #[.pointer (some ⟨g,0,none⟩)]);clear hm hb0 hf hcl hps hbk hvp hz hc hr;generalize f.err (ps.map PF.params) calls main=T at *;generalize b1U (ps.map PF.params) f.sizes calls f.cmds=EC at *;generalize f.result.none_=NO at *;generalize f.result.err f.sizes=ER at *;generalize hHP:b5d main f=HP at *;generalize f.result.kind=rk at *;generalize f.result.n=rn at *;generalize f.params=fp at *;have p0:=HPV.out.cell (i:=0) (v:=.pointer (some ⟨g,0,none⟩)) rfl;go_enter Try.func98,Try.ntmps98;go_wp2_with fail
 refine(HH.out _ HX.out).mono ?_;rintro r w1 ⟨rfl,hb⟩;replace HX:=Lib.hid (HX.out.tr hb);replace HPV:=Lib.hid (HPV.out.keep hb);clear hb p0 HH;by_cases h0:HP≠0
 ·have d0:(HP != 0)=true:=by simpa using h0
  have HR:Hid (T=HP):=Lib.hid (by rw[HT.out,b1I h0]);clear h0;go_wp2;go_ret;exact⟨by rw[HR.out];rfl,HX.out⟩
 have h00:HP=0:=by omega
 subst h00;replace HT:Hid (T=orE EC (if main then(if NO then 0 else 1) else ER)):=Lib.hid (by rw[HT.out,b4E]);replace HWK:=Lib.hid (HWK.out rfl);replace HEX:=Lib.hid (HEX.out rfl);clear h0;have hsz:w.heap.size<w1.heap.size:=HPV.out.lt;have HK1:=Lib.hid (Blk.new w1 ERT #[.int .i64 0]);have HX1:Hid (Bel w (w1.alloc (.cells #[.int .i64 0] ERT))):=Lib.hid (HX.out.al _);have HPV1:=Lib.hid (HPV.out.keep ((Bel.rfl_ w1).al (.cells #[.int .i64 0] ERT)));have p0:=HPV1.out.cell (i:=0) (v:=.pointer (some ⟨g,0,none⟩)) rfl;have q3:=(HBK.out.keep HX1.out).cell (i:=3) (v:=.slice Ac f.cmds.length cc) rfl;go_wp2_with fail
 refine(HWK.out _ _ _ hsz HX1.out HPV1.out HK1.out HC.out).mono ?_;rintro r w2 ⟨rfl,hgr,hbr⟩;rw[HWP.out] at hbr;have hb2:=b6k HX1.out (Nat.le_of_lt hsz) hgr;have HX2:=Lib.hid hb2;have HPV2:=Lib.hid (HPV1.out.grown hgr (by simp;omega));have e0:=hbr.cell (i:=0) (v:=.int .i64 EC) rfl;clear hgr hb2 p0 q3 hbr HWP HWK HC;have p0:=HPV2.out.cell (i:=0) (v:=.pointer (some ⟨g,0,none⟩)) rfl;have HBK2:=Lib.hid (HBK.out.keep HX2.out);have q2:=HBK2.out.cell (i:=2) (v:=.slice Az f.sizes.length cz) rfl;have q4:=HBK2.out.cell (i:=4) (v:=.int .i64 rk) rfl;have q5:=HBK2.out.cell (i:=5) (v:=.int .i64 rn) rfl;have q6:=HBK2.out.cell (i:=6) (v:=.slice Ar f.result.args.length cr) rfl;by_cases hE:EC≠0
 ·have dE:(EC != 0)=true:=by simpa using hE
  have HR:Hid (T=EC):=Lib.hid (by rw[HT.out,b1I hE]);clear hE;go_wp2;go_ret;exact⟨by rw[HR.out];rfl,HX2.out⟩
 have hE0:EC=0:=by omega
 subst hE0;replace HT:Hid (T=if main then(if NO then 0 else 1) else ER):=Lib.hid (by rw[HT.out,b4E]);clear hE;cases main with
 | true =>
  go_wp2_with fail
  refine(HNO.out _ (HB0.out.tr HX2.out)).mono ?_;rintro r w3 ⟨rfl,hb⟩;have HX3:=Lib.hid (HX2.out.tr hb);clear hb;cases NO with
  | true =>
   have HR:Hid (T=0):=Lib.hid HT.out;go_wp2;go_ret;exact⟨by rw[HR.out];rfl,HX3.out⟩
  | false =>
   have HR:Hid (T=1):=Lib.hid HT.out;go_wp2;go_ret;exact⟨by rw[HR.out];rfl,HX3.out⟩
 | false =>
  have HR:Hid (T=ER):=Lib.hid HT.out;go_upto_region 12 with fail;refine wp_region_held_drew (S:=fun W=>Bel w2 W) (by kernel_rfl) ((Bel.rfl_ w2).dr) (fun hS=>?_);refine b0A (i:=0) (some 31) (.pointer (some ⟨g,0,none⟩)) rfl hS (fun W hb=>c3Q rfl (by kernel_rfl) ((HPV2.out.keep hb).cell (i:=0) (v:=.pointer (some ⟨g,0,none⟩)) rfl)) ?_;refine b0A (i:=1) (some 32) (.pointer (some ⟨g,0,none⟩)) rfl hS (fun W _=>by kernel_rfl) ?_;refine b0A (i:=2) (some 33) (.pointer (some ⟨g,1,none⟩)) rfl hS (fun W _=>by kernel_rfl) ?_;refine b0A (i:=3) (some 34) (.pointer (some ⟨g,4,none⟩)) rfl hS (fun W _=>by kernel_rfl) ?_;refine b0A (i:=4) (some 35) (.agg #[.int .i64 rk,.int .i64 rn,.slice Ar f.result.args.length cr]) rfl hS (fun W hb=>b0S 47 (.tmp 34) b3x g 4 [.int .i64 rk,.int .i64 rn,.slice Ar f.result.args.length cr] (b0g (HBK2.out.keep hb) 4 rfl) rfl) ?_;refine b0A (i:=5) (some 36) (.pointer (some ⟨g,0,none⟩)) rfl hS (fun W hb=>c3Q rfl (by kernel_rfl) ((HPV2.out.keep hb).cell (i:=0) (v:=.pointer (some ⟨g,0,none⟩)) rfl)) ?_;refine b0A (i:=6) (some 37) (.pointer (some ⟨g,0,none⟩)) rfl hS (fun W _=>by kernel_rfl) ?_;refine b0A (i:=7) (some 38) (.pointer (some ⟨g,1,none⟩)) rfl hS (fun W _=>by kernel_rfl) ?_;refine b0A (i:=8) (some 39) (.pointer (some ⟨g,2,none⟩)) rfl hS (fun W _=>by kernel_rfl) ?_;refine b0A (i:=9) (some 40) (.slice Az f.sizes.length cz) rfl hS (fun W hb=>b1F ((HBK2.out.keep hb).cell (i:=2) (v:=.slice Az f.sizes.length cz) rfl)) ?_;refine b0v (i:=10) (some 41) rfl 66 #[.agg #[.int .i64 rk,.int .i64 rn,.slice Ar f.result.args.length cr],.slice Az f.sizes.length cz] (HEX.out _ (HB0.out.tr (HX2.out.tr hS))) ?_;rintro e W9 ⟨rfl,hb⟩;refine⟨_,rfl,hS.tr hb,fun hS=>?_⟩;refine b0A (i:=11) (some 4) (.int .i64 ER) rfl hS (fun W _=>by kernel_rfl) ?_;refine wpAnyH_done (by kernel_rfl) ?_ _;try simp only[Act.put,List.setIfInBounds_toArray,List.set_cons_zero,List.set_cons_succ]
  have HX3:=Lib.hid (HX2.out.tr hS);clear hS;go_wp2;go_ret;exact⟨by rw[HR.out];rfl,HX3.out⟩
theorem b6M{pms:List Int}:∀{l:List PF} {j n:Nat} {f:PF},l[j]? = some f→b2P pms (n+j) (l.drop j)=orE (f.err pms (if j+1=l.length then((n+j:Nat):Int) else((n+j+1:Nat):Int)) (decide (j+1=l.length))) (b2P pms (n+j+1) (l.drop (j+1)))
 | [],j,n,f,h=>by simp at h
 | [x],j,n,f,h=>by
  have hj:j=0:=by have:=(List.getElem?_eq_some_iff.1 h).1;simp at this;exact this
  subst hj;obtain rfl:=Option.some.inj h;rw[List.drop_zero,b2P,if_pos (show 0+1=[x].length from rfl),show List.drop (0+1) [x]=[] from rfl,b2P,b2v];rfl
 | x::y::l,j,n,f,h=>by
  cases j with
  | zero =>
   obtain rfl:=Option.some.inj h;rw[List.drop_zero,b2P,if_neg (by simp),decide_eq_false (by simp)];rfl
  | succ j =>
   have:=b6M (pms:=pms) (l:=y::l) (j:=j) (n:=n+1) (f:=f) (by simpa using h);rw[List.drop_succ_cons,List.drop_succ_cons];rw[show n+(j+1)=n+1+j by omega];rw[this];have e:(j+1=(y::l).length)↔(j+1+1=(x::y::l).length):=by simp
   rw[decide_eq_decide.2 e];by_cases hh:j+1=(y::l).length
   ·rw[if_pos hh,if_pos (e.1 hh)]
   ·rw[if_neg hh,if_neg fun h2=>hh (e.2 h2)]
theorem c2m(l:List PF):b5X l=if l.length=0 then 1 else if 6<l.length∨b3D l 0=false then 2 else b2P (l.map PF.params) 0 l:=by
 unfold b5X b3D;by_cases h0:l.length=0
 ·rw[if_pos h0,if_pos h0]
 rw[if_neg h0,if_neg h0]
 have e:(6<l.length∨l.all (fun f=>b1P f.cmds 1)=false∨40<(l.map fun f=>b0r f.cmds).sum)↔(6<l.length∨(l.all (fun f=>b1P f.cmds 1) && decide (0+((l.map fun f=>b0r f.cmds).sum:Nat)≤(40:Int)))=false):=by
  rw[Bool.and_eq_false_iff];refine or_congr Iff.rfl (or_congr Iff.rfl ?_)
  constructor
  ·intro h;exact decide_eq_false (by omega)
  ·intro h;have:=of_decide_eq_false h;omega
 by_cases h:6<l.length∨l.all (fun f=>b1P f.cmds 1)=false∨40<(l.map fun f=>b0r f.cmds).sum
 ·rw[if_pos h,if_pos (e.1 h)]
 ·rw[if_neg h,if_neg fun h2=>h (e.2 h2)]
theorem c0C(ps:List PF)(v:Value)(w:World)(h:Sl pfR w v ps):Calls Try.prog 52 #[.agg #[v]] w fun r w'=>r=.returned (.int .i64 (b5X ps))∧Bel w w':=by
 have HSL:=Lib.hid h;have HFW:=Lib.hid (fun W (hb:Bel w W)=>c2n ps v W (h.keep hb));have HT:Hid (b5X ps=if ps.length=0 then 1 else if 6<ps.length∨b3D ps 0=false then 2 else b2P (ps.map PF.params) 0 ps):=Lib.hid (c2m ps)
 have HFN:Hid (b3D ps 0=true→∀f∈ps,b1P f.cmds 1=true):=Lib.hid (by
  intro h;unfold b3D at h;rw[Bool.and_eq_true,List.all_eq_true] at h;exact h.1)
 obtain⟨A,c,rfl,hll⟩:=b0R h;clear h;generalize b5X ps=T at *;generalize b3D ps 0=FW at *;have HX:Hid (Bel w (w.alloc (.cells #[.slice A ps.length c] 40))):=Lib.hid ((Bel.rfl_ w).al _);have HPB:=Lib.hid (Blk.new w 40 #[.slice A ps.length c]);by_cases h0:ps.length=0
 ·have HR:Hid (T=1):=Lib.hid (by rw[HT.out,if_pos h0]);obtain rfl:=List.eq_nil_of_length_eq_zero h0;have d0:((([]:List PF).length:Int)==0)=true:=rfl;go_enter Try.func52,Try.ntmps52;go_wp2;go_ret;exact⟨by rw[HR.out];rfl,HX.out⟩
 have d0:((ps.length:Int)==0)=false:=by rw[beq_eq_false_iff_ne];omega
 by_cases h6:ps.length > 6
 ·have HR:Hid (T=2):=Lib.hid (by rw[HT.out,if_neg h0,if_pos (Or.inl h6)]);have d6:decide ((ps.length:Int) > 6)=true:=decide_eq_true (by omega);clear h0 h6;go_enter Try.func52,Try.ntmps52;go_wp2;go_ret;exact⟨by rw[HR.out];rfl,HX.out⟩
 have d6:decide ((ps.length:Int) > 6)=false:=decide_eq_false (by omega);have hpos:0<ps.length:=by omega
 have h66:ps.length≤6:=by omega
 replace HT:Hid (T=if FW=false then 2 else b2P (ps.map PF.params) 0 ps):=Lib.hid (by
  rw[HT.out,if_neg h0];by_cases hf:FW=false
  ·rw[if_pos (Or.inr hf),if_pos hf]
  ·rw[if_neg (by rintro(h | h);exact h6 h;exact hf h),if_neg hf])
 clear h0 h6;go_enter Try.func52,Try.ntmps52;go_wp2_with fail
 refine(HFW.out _ HX.out).mono ?_;rintro r w1 ⟨rfl,hb⟩;replace HX:=Lib.hid (HX.out.tr hb);replace HPB:=Lib.hid (HPB.out.keep hb);have p0:=HPB.out.cell (i:=0) (v:=.slice A ps.length c) rfl;clear hb HFW d0;cases FW with
 | false =>
  have HR:Hid (T=2):=Lib.hid (by rw[HT.out,if_pos rfl]);go_wp2;go_ret;exact⟨by rw[HR.out];rfl,HX.out⟩
 | true =>
  replace HT:Hid (b2P (ps.map PF.params) (0+0) (ps.drop 0)=T):=Lib.hid (by rw[HT.out,if_neg (by decide)];rfl);replace HFN:=Lib.hid (HFN.out rfl);clear d6;go_wp2;go_loopw [30] (fun i wr=>∃j:Nat,i=.int .i64 j∧j≤ps.length∧Hid (b2P (ps.map PF.params) (0+j) (ps.drop j)=T)∧Hid (∀(i:Nat) gg,i<j→ps[i]? = some gg→gg.params≤3)∧Hid (Bel w1 wr)) (fun i _=>ps.length-(intOf i).toNat)
  case atStart=>exact⟨0,rfl,by omega,HT,Lib.hid (fun i gg h=>absurd h (by omega)),Bel.rfl_ _⟩
  case round =>
   obtain⟨j,rfl,hj,HJ,HP3,HW⟩:=hrel;clear HT;by_cases hlt:j<ps.length
   rotate_left
   ·have HR:Hid (0=T):=Lib.hid (by rw[←HJ.out,List.drop_eq_nil_of_le (by omega),b2P]);go_wp2;go_ret;exact⟨by rw[←HR.out];rfl,HX.out.tr HW.out⟩
   obtain⟨f,hf⟩:∃f,ps[j]? = some f:=⟨_,List.getElem?_eq_getElem hlt⟩;obtain⟨b,o,cs,rfl,hcs,hca⟩:=HSL.out.elem hf;obtain⟨vz,vc,vr,rfl,hz,hc,hr⟩:=id hcs;have HCS:Hid (PFR w f [.int .i64 f.params,vz,vc,.int .i64 f.result.kind,.int .i64 f.result.n,vr]):=Lib.hid hcs;have hca2:=hca.keep (HX.out.tr HW.out);have y0:wr.cell? ⟨b,o+j*6,none⟩=some (.int .i64 f.params):=hca2 0 _ rfl;have y1:wr.cell? ⟨b,o+j*6+1,none⟩=some vz:=hca2 1 _ rfl;have y2:wr.cell? ⟨b,o+j*6+2,none⟩=some vc:=hca2 2 _ rfl;have y3:wr.cell? ⟨b,o+j*6+3,none⟩=some (.int .i64 f.result.kind):=hca2 3 _ rfl;have y4:wr.cell? ⟨b,o+j*6+4,none⟩=some (.int .i64 f.result.n):=hca2 4 _ rfl;have y5:wr.cell? ⟨b,o+j*6+5,none⟩=some vr:=hca2 5 _ rfl;obtain⟨Az,cz,rfl,-⟩:=b0R hz;obtain⟨Ac,cc,rfl,-⟩:=b0R hc;obtain⟨Ar,cr,rfl,-⟩:=b0R hr;have HFF:=Lib.hid (HFN.out f (List.mem_of_getElem? hf));have p0:=(HPB.out.keep HW.out).cell (i:=0) (v:=.slice (some ⟨b,o,none⟩) ps.length c) rfl;have HFS:=Lib.hid (b6M (pms:=ps.map PF.params) (n:=0) hf);have HHF:=Lib.hid hf;clear hca hca2 hcs hz hc hr hf;have HX2:=Lib.hid (HX.out.tr HW.out)
   have HFC:=Lib.hid (fun W g (calls:Int) main (hb:Bel w W) (hbk:Blk W g 155 #[.slice (some ⟨b,o,none⟩) ps.length c,.int .i64 f.params,.slice Az f.sizes.length cz,.slice Ac f.cmds.length cc,.int .i64 f.result.kind,.int .i64 f.result.n,.slice Ar f.result.args.length cr,.int .i64 calls]) (hcl:calls≤(ps.length:Int)) (hcj:calls≤j+1) =>
    c3u w W ps f calls g main ⟨_,_,hbk,HSL.out,HCS.out⟩ hb HFF.out hcl (fun h3 i gg hi hlt=>by
     rcases Nat.lt_or_ge i j with h | h
     ·exact HP3.out i gg h hi
     ·obtain rfl:i=j:=by omega
      rw[HHF.out] at hi;obtain rfl:=Option.some.inj hi;exact h3))
   have HKF:=Lib.hid (Blk.new wr 78 #[.int .i64 f.params,.slice Az f.sizes.length cz,.slice Ac f.cmds.length cc,.int .i64 f.result.kind,.int .i64 f.result.n,.slice Ar f.result.args.length cr]);have HXF:Hid (Bel wr (wr.alloc (.cells #[.int .i64 f.params,.slice Az f.sizes.length cz,.slice Ac f.cmds.length cc,.int .i64 f.result.kind,.int .i64 f.result.n,.slice Ar f.result.args.length cr] 78))):=Lib.hid ((Bel.rfl_ wr).al _);go_upto_region 9 with fail;generalize wr.alloc _=WF at *;generalize wr.heap.size=KF at *;have HX3:=Lib.hid (HX2.out.tr HXF.out);replace p0:=HXF.out.cell p0;have z0:=HKF.out.cell (i:=0) (v:=.int .i64 f.params) rfl;have z1:=HKF.out.cell (i:=1) (v:=.slice Az f.sizes.length cz) rfl;have z2:=HKF.out.cell (i:=2) (v:=.slice Ac f.cmds.length cc) rfl;have z3:=HKF.out.cell (i:=3) (v:=.int .i64 f.result.kind) rfl;have z4:=HKF.out.cell (i:=4) (v:=.int .i64 f.result.n) rfl;have z5:=HKF.out.cell (i:=5) (v:=.slice Ar f.result.args.length cr) rfl;clear y0 y1 y2 y3 y4 y5;by_cases hjl:j+1=ps.length
   ·
    have dl:((j:Int)==(ps.length:Int)-1)=true:=by rw[beq_iff_eq];omega
    have HR:Hid (orE (f.err (ps.map PF.params) ((j:Int)) true) (b2P (ps.map PF.params) (j+1) (ps.drop (j+1)))=T):=Lib.hid (by rw[←HJ.out,HFS.out,if_pos hjl,decide_eq_true hjl];simp only[Nat.zero_add];try rfl);have HCH:=Lib.hid (Blk.new WF 155 #[.slice (some ⟨b,o,none⟩) ps.length c,.int .i64 f.params,.slice Az f.sizes.length cz,.slice Ac f.cmds.length cc,.int .i64 f.result.kind,.int .i64 f.result.n,.slice Ar f.result.args.length cr,.int .i64 ((j:Int))]);have HCB:=Lib.hid (HFC.out _ _ ((j:Int)) true (HX3.out.al _) HCH.out (by omega) (by omega));have hmin:min ((j:Int)+1) ((ps.length:Int)-1)=(j:Int):=by omega
    have HPP:Hid (f.err (ps.map PF.params) ((j:Int)) true=0→f.params≤3):=Lib.hid fun h=>(PF.err_ok h).2.2.1;generalize f.err (ps.map PF.params) ((j:Int)) true=FE at *;go_wp2_with fail
    refine HCB.out.mono ?_;rintro r w3 ⟨rfl,hb⟩;have HX4:=Lib.hid (HXF.out.tr (Bel.tr ((Bel.rfl_ WF).al _) hb));clear hb HCH HCB;by_cases hE:FE=0
    ·have HPQ:=Lib.hid (HPP.out hE);subst hE;go_wp2;go_roundw
     case rel=>exact⟨j+1,by go_num,by omega,Lib.hid (by rw[Nat.zero_add];rw[←HR.out,b4E]),Lib.hid (fun i gg hi hg=>by
      rcases Nat.lt_or_ge i j with h | h
      ·exact HP3.out i gg h hg
      ·obtain rfl:i=j:=by omega
       rw[HHF.out] at hg;obtain rfl:=Option.some.inj hg;exact HPQ.out),Lib.hid (HW.out.tr HX4.out)⟩
     case measure=>simp[intOf];omega
    ·have dE:(FE != 0)=true:=by simpa using hE
     have HR2:Hid (FE=T):=Lib.hid (by rw[←HR.out,b1I hE]);go_wp2;go_ret;exact⟨by rw[←HR2.out];rfl,HX2.out.tr HX4.out⟩
   ·
    have dl:((j:Int)==(ps.length:Int)-1)=false:=by rw[beq_eq_false_iff_ne];omega
    have HR:Hid (orE (f.err (ps.map PF.params) (((j+1:Nat):Int)) false) (b2P (ps.map PF.params) (j+1) (ps.drop (j+1)))=T):=Lib.hid (by rw[←HJ.out,HFS.out,if_neg hjl,decide_eq_false hjl];simp only[Nat.zero_add];try rfl);have HCH:=Lib.hid (Blk.new WF 155 #[.slice (some ⟨b,o,none⟩) ps.length c,.int .i64 f.params,.slice Az f.sizes.length cz,.slice Ac f.cmds.length cc,.int .i64 f.result.kind,.int .i64 f.result.n,.slice Ar f.result.args.length cr,.int .i64 (((j+1:Nat):Int))]);have HCB:=Lib.hid (HFC.out _ _ (((j+1:Nat):Int)) false (HX3.out.al _) HCH.out (by omega) (by omega));have hmin:min ((j:Int)+1) ((ps.length:Int)-1)=((j+1:Nat):Int):=by omega
    have HPP:Hid (f.err (ps.map PF.params) (((j+1:Nat):Int)) false=0→f.params≤3):=Lib.hid fun h=>(PF.err_ok h).2.2.1;generalize f.err (ps.map PF.params) (((j+1:Nat):Int)) false=FE at *;go_wp2_with fail
    refine HCB.out.mono ?_;rintro r w3 ⟨rfl,hb⟩;have HX4:=Lib.hid (HXF.out.tr (Bel.tr ((Bel.rfl_ WF).al _) hb));clear hb HCH HCB;by_cases hE:FE=0
    ·have HPQ:=Lib.hid (HPP.out hE);subst hE;go_wp2;go_roundw
     case rel=>exact⟨j+1,by go_num,by omega,Lib.hid (by rw[Nat.zero_add];rw[←HR.out,b4E]),Lib.hid (fun i gg hi hg=>by
      rcases Nat.lt_or_ge i j with h | h
      ·exact HP3.out i gg h hg
      ·obtain rfl:i=j:=by omega
       rw[HHF.out] at hg;obtain rfl:=Option.some.inj hg;exact HPQ.out),Lib.hid (HW.out.tr HX4.out)⟩
     case measure=>simp[intOf];omega
    ·have dE:(FE != 0)=true:=by simpa using hE
     have HR2:Hid (FE=T):=Lib.hid (by rw[←HR.out,b1I hE]);go_wp2;go_ret;exact⟨by rw[←HR2.out];rfl,HX2.out.tr HX4.out⟩
end Go.Proofs.Ytgkpplbomciehaa
