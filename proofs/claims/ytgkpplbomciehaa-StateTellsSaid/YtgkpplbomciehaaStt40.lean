/- An event is replayed: walked. Each lemma states its own conditions. -/
import Derived.Test.YtgkpplbomciehaaStt39
namespace Go.Proofs.Ytgkpplbomciehaa
set_option maxRecDepth 20000
set_option maxHeartbeats 4000000
open Go.RowKit
section
variable {o:Oper}{ρ:Operand→Value}{W:World}{x y:Operand}{b f:Nat}{u:Value}
theorem c4H{n:Int}(ho:o.op=.store 3 x y)(hx:ρ x=.pointer (some ⟨b,f,none⟩))(hy:ρ y=.int .i64 n)(hc:W.cell? ⟨b,f,none⟩=some u)(hf:W.frozen? ⟨b,f,none⟩=false):(execOp ρ o).run Try.prog W=.ok .skip (W.setCell ⟨b,f,none⟩ (.int .i64 n)):=by
 simp[execOp,ho,hx,hy,hc,hf,go_sem]
theorem c0l{n c:Nat}{j:Int}(ho:o.op=.slice 66 x none (some y) none)(hx:ρ x=.slice (some ⟨b,0,none⟩) n c)(hy:ρ y=.int .i64 j)(h0:0≤j)(h1:j≤c)(hc:0<c):(execOp ρ o).run Try.prog W=.ok (.value (.slice (some ⟨b,0,none⟩) j.toNat c)) W:=by
 have hc0:¬c=0:=by omega
 simp[execOp,ho,hx,hy,go_sem,h0,h1,hc0]
end
theorem c3w{xs:List Fx}{k:Nat}{x:Fx}(h:xs[k]? = some x){j:Nat}(hj:j<3):(fxC xs)[k*3+j]? = x.cells[j]?:=b4C (enc:=Fx.cells) (s:=3) (fun _=>rfl) xs k x j h hj
def b9t(ps:List PF):Prop:=∀g∈ps,(∀n∈g.sizes,0≤n∧n≤8)∧g.sizes.length≤20
theorem Prog.sizes{ps:List PF}(hp:Prog ps):b9t ps:=fun g hg=>by
 obtain⟨i,hi⟩:=List.getElem?_of_mem hg;have h:=hp.fns i g hi;refine⟨h.sz,?_⟩;have:=h.var6;have:=h.par3;omega
theorem b7V(G:Gst)(w0:World)(ps:List PF)(r:Nat)(s:Rp)(e:Ev)(w:World)(hM:b6H G w0 ps r w s)(hF:Fit ps s e)(hz:b9t ps)(hl:s.frs.length≤100000)(hl2:s.fns.length≤100000) :
  Calls Try.prog 82 #[.pointer (some ⟨r,0,none⟩),e.val] w fun x w'=>x=.returned (.tuple #[])∧b6H G w0 ps r w' (s.ev ps e):=by
 have HB1:Hid (Bel w (w.alloc (.cells e.cells.toArray EVT))):=Lib.hid ((Bel.rfl_ w).al _);have HK:=Lib.hid (Blk.new w EVT e.cells.toArray);have HM:=Lib.hid (hM.keep HB1.out);have c0:=HK.out.cell (i:=0) (v:=.int .i64 e.kind) rfl;have c1:=HK.out.cell (i:=1) (v:=.int .i64 e.frame) rfl;have c2:=HK.out.cell (i:=2) (v:=.int .i64 e.at_) rfl;have c3:=HK.out.cell (i:=3) (v:=.int .i64 e.var) rfl;have c4:=HK.out.cell (i:=4) (v:=.int .i64 e.index) rfl;have c5:=HK.out.cell (i:=5) (v:=.int .i64 e.value) rfl
 have HEV:Hid (s.ev ps e=if e.kind=5 then⟨s.frs++[⟨e.value,e.var,b0c (ps.getD e.var.toNat noF).sizes⟩],s.fns++[e.var]⟩ else if e.kind=6 then⟨s.frs.dropLast,s.fns⟩ else if e.kind=2 then match s.frs.getLast? with
  | some f=>⟨s.frs.dropLast++[{ f with vars:=b2c f.vars e.var e.index e.value }],s.fns⟩
  | none=>s
 else s):=Lib.hid rfl
 obtain⟨F5,F6,F2,-⟩:=hF;have HF5:=Lib.hid F5;have HF6:=Lib.hid F6;have HF2:=Lib.hid F2;have HZ:=Lib.hid hz;have HL1:=Lib.hid hl;have HL2:=Lib.hid hl2;clear hM F5 F6 F2 hz hl hl2;generalize s.ev ps e=S2 at *;unfold Ev.val;unfold Ev.cells at HB1 HK HM c0 c1 c2 c3 c4 c5;go_enter Try.func82,Try.ntmps82;go_upto_region 1 with fail;generalize hW1:w.alloc _=W1 at *;clear hW1;generalize hKQ:w.heap.size=K at *;clear hKQ;by_cases h5:e.kind=5
 ·have d5:(e.kind==5)=true:=by rw[h5];rfl
  have hR:S2=_:=HEV.out.trans (if_pos h5);obtain⟨-,v0,v1,-⟩:=HF5.out h5;have hzg:=HZ.out _ (List.mem_of_getElem? (Prog.get v0 v1));have HEN:=Lib.hid (b7T G w0 ps r s e.value e.var W1 HM.out v0 v1 hzg.1 hzg.2 HL1.out HL2.out);rw[←hR] at HEN;clear h5 hR HEV hzg v0 v1;go_wp2_with fail
  refine HEN.out.mono ?_;rintro x w2 ⟨rfl,hM2⟩;have HM2:=Lib.hid hM2;clear hM2 c0 c1 c2 c3 c4 c5;go_wp2;exact bodyPost_end (v:=.tuple #[]) (results_none rfl _ _ _) rfl ⟨rfl,HM2.out⟩
 have d5:(e.kind==5)=false:=by simpa using h5
 replace HEV:=Lib.hid (HEV.out.trans (if_neg h5));by_cases h6:e.kind=6
 ·have d6:(e.kind==6)=true:=by rw[h6];rfl
  have HR:=Lib.hid (HEV.out.trans (if_pos h6));obtain⟨hf2,f,hf,-⟩:=HF6.out h6;obtain⟨vp,vfr,vfn,xs,hD⟩:=HM.out;have HD:=Lib.hid hD;have hxl:=hD.len;have hxs:0<xs.length:=by omega
  obtain⟨ys,x,rfl⟩:∃ys x,xs=ys++[x]:=⟨xs.dropLast,xs.getLast (by intro h;rw[h] at hxs;simp at hxs),(List.dropLast_concat_getLast _).symm⟩;obtain⟨gf,cf,rfl,-,hcf,hcm,-⟩:=b2B hD.row hxs;have hyl:(ys++[x]).length=ys.length+1:=by simp
  have hys:ys.length+1≤100000:=by have:=HL1.out;omega
  rw[hyl] at hcf;have HP:=Lib.hid (fun(W:World) (hb:Bel W1 W)=>(HD.out.keep hb).pop rfl);have HRB:=Lib.hid hD.blk;clear h5 h6 HEV hf hf2 hD hxl hxs c1 c2 c3 c4 c5;simp only[hyl] at HP HRB;go_upto_region 5 with fail;refine wp_region_held_drew (S:=fun W=>True) (by kernel_rfl) trivial (fun hS=>?_);have HBW:=Lib.hid ((Bel.rfl_ W1).dr);generalize W1.drew=wd at *;have HRW:=Lib.hid (HRB.out.keep HBW.out);refine b0A (i:=0) (some 16) (.pointer (some ⟨r,0,none⟩)) rfl hS (fun W _=>by kernel_rfl) ?_;refine b0A (i:=1) (some 17) (.pointer (some ⟨r,0,none⟩)) rfl hS (fun W _=>by kernel_rfl) ?_;refine b0A (i:=2) (some 18) (.pointer (some ⟨r,0,none⟩)) rfl hS (fun W _=>by kernel_rfl) ?_;refine b0A (i:=3) (some 19) (.pointer (some ⟨r,1,none⟩)) rfl hS (fun W _=>by kernel_rfl) ?_;refine b0A (i:=5) (some 21) (.pointer (some ⟨r,0,none⟩)) rfl hS (fun W _=>by kernel_rfl) ?_;refine b0A (i:=6) (some 22) (.pointer (some ⟨r,0,none⟩)) rfl hS (fun W _=>by kernel_rfl) ?_;refine b0A (i:=7) (some 23) (.pointer (some ⟨r,1,none⟩)) rfl hS (fun W _=>by kernel_rfl) ?_;refine b9B (i:=4) (j:=8) (by kernel_rfl) ?_ ?_
  ·skip
   refine b6C (i:=4) (some 20) rfl rfl (by kernel_rfl) (.slice (some ⟨gf,0,none⟩) (ys.length+1) cf) wd (b7C rfl (by kernel_rfl) (HRW.out.cell (i:=1) rfl)) trivial ?_;refine b2G (i:=8) (by kernel_rfl) ?_;refine b6C (i:=8) (some 24) rfl rfl (by kernel_rfl) (.slice (some ⟨gf,0,none⟩) (ys.length+1) cf) wd (b7C rfl (by kernel_rfl) (HRW.out.cell (i:=1) rfl)) trivial ?_;refine b0A (i:=9) (some 25) (.int .i64 (ys.length+1:Nat)) rfl trivial (fun W _=>by kernel_rfl) ?_;refine b0A (i:=10) (some 26) (.int .i64 ys.length) rfl trivial (fun W _=>b0n (k:=(ys.length+1:Nat)) (l:=1) (by omega) (by omega) (by omega)) ?_;refine b0A (i:=11) (some 27) (.slice (some ⟨gf,0,none⟩) ys.length cf) rfl trivial (fun W _=>c0l (b:=gf) (n:=ys.length+1) (c:=cf) (j:=ys.length) rfl (by kernel_rfl) (by kernel_rfl) (by omega) (by omega) (by omega)) ?_;refine b0A (i:=12) (some 28) (.pointer (some ⟨r,0,none⟩)) rfl trivial (fun W _=>by kernel_rfl) ?_;refine b0A (i:=13) (some 29) (.pointer (some ⟨r,1,none⟩)) rfl trivial (fun W _=>by kernel_rfl) ?_;refine b2G (i:=14) (by kernel_rfl) ?_;refine b4z (i:=14) none rfl rfl (by kernel_rfl) (wd.setCell ⟨r,1,none⟩ (.slice (some ⟨gf,0,none⟩) ys.length cf)) (c0o rfl (by kernel_rfl) (by kernel_rfl) (HRW.out.cell (i:=1) rfl) (HRW.out.frozen 1)) trivial ?_;refine wpAnyH_done (by kernel_rfl) ?_ _;try simp only[Act.put,List.setIfInBounds_toArray,List.set_cons_zero,List.set_cons_succ]
   have hfin:=HP.out _ HBW.out;have HFN:=Lib.hid hfin;clear hfin;go_wp2;exact bodyPost_end (v:=.tuple #[]) (results_none rfl _ _ _) rfl ⟨rfl,by rw[HR.out];exact⟨_,_,_,_,HFN.out⟩⟩
  ·skip
   refine b6C (i:=8) (some 24) rfl rfl (by kernel_rfl) (.slice (some ⟨gf,0,none⟩) (ys.length+1) cf) wd (b7C rfl (by kernel_rfl) (HRW.out.cell (i:=1) rfl)) trivial ?_;refine b0A (i:=9) (some 25) (.int .i64 (ys.length+1:Nat)) rfl trivial (fun W _=>by kernel_rfl) ?_;refine b0A (i:=10) (some 26) (.int .i64 ys.length) rfl trivial (fun W _=>b0n (k:=(ys.length+1:Nat)) (l:=1) (by omega) (by omega) (by omega)) ?_;refine b2G (i:=4) (by kernel_rfl) ?_;refine b6C (i:=4) (some 20) rfl rfl (by kernel_rfl) (.slice (some ⟨gf,0,none⟩) (ys.length+1) cf) wd (b7C rfl (by kernel_rfl) (HRW.out.cell (i:=1) rfl)) trivial ?_;refine b0A (i:=11) (some 27) (.slice (some ⟨gf,0,none⟩) ys.length cf) rfl trivial (fun W _=>c0l (b:=gf) (n:=ys.length+1) (c:=cf) (j:=ys.length) rfl (by kernel_rfl) (by kernel_rfl) (by omega) (by omega) (by omega)) ?_;refine b0A (i:=12) (some 28) (.pointer (some ⟨r,0,none⟩)) rfl trivial (fun W _=>by kernel_rfl) ?_;refine b0A (i:=13) (some 29) (.pointer (some ⟨r,1,none⟩)) rfl trivial (fun W _=>by kernel_rfl) ?_;refine b2G (i:=14) (by kernel_rfl) ?_;refine b4z (i:=14) none rfl rfl (by kernel_rfl) (wd.setCell ⟨r,1,none⟩ (.slice (some ⟨gf,0,none⟩) ys.length cf)) (c0o rfl (by kernel_rfl) (by kernel_rfl) (HRW.out.cell (i:=1) rfl) (HRW.out.frozen 1)) trivial ?_;refine wpAnyH_done (by kernel_rfl) ?_ _;try simp only[Act.put,List.setIfInBounds_toArray,List.set_cons_zero,List.set_cons_succ]
   have hfin:=HP.out _ HBW.out;have HFN:=Lib.hid hfin;clear hfin;go_wp2;exact bodyPost_end (v:=.tuple #[]) (results_none rfl _ _ _) rfl ⟨rfl,by rw[HR.out];exact⟨_,_,_,_,HFN.out⟩⟩
 have d6:(e.kind==6)=false:=by simpa using h6
 replace HEV:=Lib.hid (HEV.out.trans (if_neg h6));by_cases h2:e.kind=2
 rotate_left
 ·have d2:(e.kind==2)=false:=by simpa using h2
  have HR:=Lib.hid (HEV.out.trans (if_neg h2));clear h5 h6 h2 HEV;go_wp2;exact bodyPost_end (v:=.tuple #[]) (results_none rfl _ _ _) rfl ⟨rfl,by rw[HR.out];exact HM.out⟩
 have d2:(e.kind==2)=true:=by rw[h2];rfl
 obtain⟨f,l,hf,-,v0,hl,i0,i1⟩:=HF2.out h2;have HR:Hid (S2=⟨s.frs.dropLast++[{ f with vars:=b2c f.vars e.var e.index e.value }],s.fns⟩):=Lib.hid (by rw[HEV.out,if_pos h2,hf]);obtain⟨vp,vfr,vfn,xs,hD⟩:=HM.out;have HD:=Lib.hid hD;have hxl:=hD.len
 have hxs:0<xs.length:=by
  rcases Nat.eq_zero_or_pos xs.length with h | h
  ·rw[hD.frs,List.eq_nil_of_length_eq_zero h] at hf;simp at hf
  ·exact h
 obtain⟨ys,x,rfl⟩:∃ys x,xs=ys++[x]:=⟨xs.dropLast,xs.getLast (by intro h;rw[h] at hxs;simp at hxs),(List.dropLast_concat_getLast _).symm⟩
 obtain rfl:f=x.f:=by
  rw[hD.frs,List.map_append,List.map_singleton,List.getLast?_concat] at hf;exact(Option.some.inj hf).symm
 obtain⟨gf,cf,rfl,-,hcf,hcm,hcell,cur,hFB⟩:=b2B hD.row hxs;have hvx:=hD.vars x (by simp);obtain⟨bv,cv,g,hvv,hgs,hvc,-,hG⟩:=hvx.cell hl;obtain⟨u,hu⟩:∃u,l[e.index.toNat]? = some u:=⟨_,List.getElem?_eq_getElem (by omega)⟩;have hyl:(ys++[x]).length=ys.length+1:=by simp
 have q0:W1.cell? ⟨gf,ys.length*3+2,none⟩=some (.slice (some ⟨bv,0,none⟩) x.f.vars.length cv):=by
  have h3:=c3w (xs:=ys++[x]) (k:=ys.length) (x:=x) (by simp) (j:=2) (by decide);have h4:=hcell (ys.length*3+2) x.vv (by rw[h3];rfl);rw[h4,hvv]
 have hvl:e.var<x.f.vars.length:=by have:=(List.getElem?_eq_some_iff.1 hl).1;omega
 have HWR:=Lib.hid (fun(W:World) (hb:Bel W1 W)=>(HD.out.keep hb).write (i:=e.index) rfl hl hgs e.value);have HRB:=Lib.hid hD.blk;have HG:=Lib.hid hG;have HFB:Hid (Blk W1 gf SFT cur):=Lib.hid hFB;have HQ0:=Lib.hid q0;have HVC:=Lib.hid hvc
 obtain⟨curv,hVB⟩:∃cur,Blk W1 bv b4b cur:=by
  obtain⟨b9,c9,h9,-,-,-,-,cur9,h8⟩:=b2B hvx.row (by omega);rw[hvv] at h9;injection h9 with h9;injection h9 with h9;injection h9 with h9;subst h9;exact⟨cur9,h8⟩
 have HVB:=Lib.hid hVB;have HLU:=Lib.hid hu
 have hln:l.length≤maxLen:=by
  obtain⟨-,h,-⟩:=hvx.blk _ _ _ hgs hl;exact h
 rw[hyl] at hcf;have hys:ys.length+1≤100000:=by have:=HL1.out;omega
 clear h5 h6 h2 HEV hf hD hxl hxs hcell hvx hvv hgs hvc hG hFB hVB hu q0 hl;simp only[hyl] at HWR HRB;have i7:(ys.length:Int)<ys.length+1:=by omega
 have i8:(0:Int)≤ys.length:=by omega
 go_upto_region 7 with fail;have HBW:=Lib.hid ((Bel.rfl_ W1).dr);refine wp_region_held_drew (S:=fun W=>W.cell? ⟨r,1,none⟩=some (.slice (some ⟨gf,0,none⟩) (ys.length+1) cf)∧W.cell? ⟨gf,ys.length*3+2,none⟩=some (.slice (some ⟨bv,0,none⟩) x.f.vars.length cv)∧W.cell? ⟨bv,e.var.toNat,none⟩=some (.slice (some ⟨g,0,none⟩) l.length l.length)∧W.cell? ⟨K,3,none⟩=some (.int .i64 e.var)∧W.cell? ⟨K,4,none⟩=some (.int .i64 e.index)∧W.cell? ⟨K,5,none⟩=some (.int .i64 e.value)) (by kernel_rfl) ⟨(HRB.out.keep HBW.out).cell (i:=1) rfl,HBW.out.cell HQ0.out,HBW.out.cell HVC.out,(HK.out.keep HBW.out).cell (i:=3) rfl,(HK.out.keep HBW.out).cell (i:=4) rfl,(HK.out.keep HBW.out).cell (i:=5) rfl⟩ (fun hS=>?_);generalize W1.drew=wd at *;refine b0A (i:=0) (some 32) (.pointer (some ⟨r,0,none⟩)) rfl hS (fun W _=>by kernel_rfl) ?_;refine b0A (i:=1) (some 33) (.pointer (some ⟨r,0,none⟩)) rfl hS (fun W _=>by kernel_rfl) ?_;refine b0A (i:=2) (some 34) (.pointer (some ⟨r,1,none⟩)) rfl hS (fun W _=>by kernel_rfl) ?_;refine b0A (i:=3) (some 35) (.slice (some ⟨gf,0,none⟩) (ys.length+1) cf) rfl hS (fun W hb=>b7C rfl (by kernel_rfl) hb.1) ?_;refine b0A (i:=4) (some 36) (.pointer (some ⟨r,0,none⟩)) rfl hS (fun W _=>by kernel_rfl) ?_;refine b0A (i:=5) (some 37) (.pointer (some ⟨r,0,none⟩)) rfl hS (fun W _=>by kernel_rfl) ?_;refine b0A (i:=6) (some 38) (.pointer (some ⟨r,1,none⟩)) rfl hS (fun W _=>by kernel_rfl) ?_;refine b0A (i:=7) (some 39) (.slice (some ⟨gf,0,none⟩) (ys.length+1) cf) rfl hS (fun W hb=>b7C rfl (by kernel_rfl) hb.1) ?_;refine b0A (i:=8) (some 40) (.int .i64 (ys.length+1)) rfl hS (fun W _=>by kernel_rfl) ?_;refine b0A (i:=9) (some 41) (.int .i64 ys.length) rfl hS (fun W _=>b0n (k:=(ys.length+1:Nat)) (l:=1) (by omega) (by omega) (by omega)) ?_;refine b0A (i:=10) (some 42) (.pointer (some ⟨gf,ys.length*3,none⟩)) rfl hS (fun W _=>by go_simp) ?_;refine b0A (i:=11) (some 43) (.pointer (some ⟨gf,ys.length*3+2,none⟩)) rfl hS (fun W _=>by kernel_rfl) ?_
 refine b0A (i:=12) (some 44) (.slice (some ⟨bv,0,none⟩) x.f.vars.length cv) rfl hS (fun W hb=>c3R rfl (by kernel_rfl) hb.2.1) ?_;refine b0A (i:=13) (some 45) (.pointer (some ⟨K,3,none⟩)) rfl hS (fun W _=>by kernel_rfl) ?_;refine b0A (i:=14) (some 46) (.int .i64 e.var) rfl hS (fun W hb=>b0I hb.2.2.2.1) ?_;refine b0A (i:=15) (some 47) (.pointer (some ⟨bv,e.var.toNat,none⟩)) rfl hS (fun W _=>by go_simp) ?_;refine b0A (i:=16) (some 48) (.slice (some ⟨g,0,none⟩) l.length l.length) rfl hS (fun W hb=>b1F hb.2.2.1) ?_;refine b0A (i:=17) (some 49) (.pointer (some ⟨K,4,none⟩)) rfl hS (fun W _=>by kernel_rfl) ?_;refine b0A (i:=18) (some 50) (.int .i64 e.index) rfl hS (fun W hb=>b0I hb.2.2.2.2.1) ?_;refine b0A (i:=19) (some 51) (.pointer (some ⟨K,5,none⟩)) rfl hS (fun W _=>by kernel_rfl) ?_;refine b0A (i:=20) (some 52) (.int .i64 e.value) rfl hS (fun W hb=>b0I hb.2.2.2.2.2) ?_;refine b0A (i:=21) (some 53) (.pointer (some ⟨g,e.index.toNat,none⟩)) rfl hS (fun W _=>by go_simp) ?_;have hGW:=HG.out.keep HBW.out
 have hne:∀{b:Nat} {ty:TypeId} {cs:Array Value},Blk W1 b ty cs→ty≠INT→∀k v,wd.cell? ⟨b,k,none⟩=some v→(wd.setCell ⟨g,e.index.toNat,none⟩ (.int .i64 e.value)).cell? ⟨b,k,none⟩=some v:=fun hb ht k v hv=>by
  have hbb:=(hb.keep HBW.out).ne hGW ht;rw[←hv];exact World.cell?_setCell_far _ _ _ _ (fun e=>hbb e.symm)
 refine b2G (i:=22) (by kernel_rfl) ?_;refine b4z (i:=22) none rfl rfl (by kernel_rfl) (wd.setCell ⟨g,e.index.toNat,none⟩ (.int .i64 e.value)) (c4H rfl (by kernel_rfl) (by kernel_rfl) (hGW.cell (v:=.int .i64 u) (by unfold b0w;simp[HLU.out])) (hGW.frozen _)) ⟨hne HRB.out (by decide) _ _ hS.1,hne HFB.out (by decide) _ _ hS.2.1,hne HVB.out (by decide) _ _ hS.2.2.1,hne HK.out (by decide) _ _ hS.2.2.2.1,hne HK.out (by decide) _ _ hS.2.2.2.2.1,hne HK.out (by decide) _ _ hS.2.2.2.2.2⟩ ?_;refine wpAnyH_done (by kernel_rfl) ?_ _;try simp only[Act.put,List.setIfInBounds_toArray,List.set_cons_zero,List.set_cons_succ]
 have hfin:=HWR.out _ HBW.out;have HFN:=Lib.hid hfin;clear hfin hne hGW hS;go_wp2;exact bodyPost_end (v:=.tuple #[]) (results_none rfl _ _ _) rfl ⟨rfl,by rw[HR.out];exact⟨_,_,_,_,HFN.out⟩⟩
theorem b3d(ps:List PF)(hp:Prog ps)(v:Value)(w:World)(h:Sl pfR w v ps):Calls Try.prog 81 #[.agg #[v]] w fun x w'=>∃r,x=.returned (.pointer (some ⟨r,0,none⟩))∧b6H noG w ps r w' (Rp.start ps):=by
 have hpos:=hp.pos;obtain⟨A,c,rfl,-⟩:=b0R h;have HB1:Hid (Bel w (w.alloc (.cells #[.slice A ps.length c] PGT))):=Lib.hid ((Bel.rfl_ w).al _);have HP1:=Lib.hid (Blk.new w PGT #[.slice A ps.length c]);have hq:=HP1.out.keep ((Bel.rfl_ _).al (.cells #[.slice A ps.length c,.slice none 0 0,.slice none 0 0] RPT));have c0:=HP1.out.cell (i:=0) rfl;have c1:=hq.cell (i:=0) rfl
 have HD:Hid (RepD noG w ps (w.heap.size+1) ((w.alloc (.cells #[.slice A ps.length c] PGT)).alloc (.cells #[.slice A ps.length c,.slice none 0 0,.slice none 0 0] RPT)) ⟨[],[]⟩ (.slice A ps.length c) (.slice none 0 0) (.slice none 0 0) []):=Lib.hid (by
  have hk:=Blk.new (w.alloc (.cells #[.slice A ps.length c] PGT)) RPT #[.slice A ps.length c,.slice none 0 0,.slice none 0 0];rw[b1r] at hk;exact⟨((Bel.rfl_ w).al _).al _,by omega,hk,h,rfl,World.ownsRow_nil _ _ _ _,World.ownsRow_nil _ _ _ _,fun x hx=>by simp at hx,by simp,fun x hx=>by simp at hx,fun h=>h.elim⟩)
 have hlast:=List.getElem_mem (l:=ps) (n:=ps.length-1) (by omega)
 have hg:ps.getD ((ps.length:Int)-1).toNat noF=ps[ps.length-1]:=by
  rw[show((ps.length:Int)-1).toNat=ps.length-1 by omega,List.getD_eq_getElem?_getD,List.getElem?_eq_getElem (by omega)];rfl
 have hz:=hp.sizes _ hlast;rw[←hg] at hz;have HEN:=Lib.hid (b7T noG w ps (w.heap.size+1) ⟨[],[]⟩ 0 ((ps.length:Int)-1) _ ⟨_,_,_,_,HD.out⟩ (by omega) (by omega) hz.1 hz.2 (by simp) (by simp))
 have hst:(⟨([]:List Fm)++[⟨0,(ps.length:Int)-1,b0c (ps.getD ((ps.length:Int)-1).toNat noF).sizes⟩],([]:List Int)++[(ps.length:Int)-1]⟩:Rp)=Rp.start ps:=by
  rw[show((ps.length:Int)-1).toNat=ps.length-1 by omega];rfl
 rw[hst] at HEN;have h6:=hp.six;clear hz hg hlast hst HD hq h;go_enter Try.func81,Try.ntmps81;go_wp2_with fail
 refine HEN.out.mono ?_;rintro x w2 ⟨rfl,hM⟩;have HM:=Lib.hid hM;clear hM HEN c0 c1;generalize w.heap.size=Q at *;go_wp2;go_ret;exact⟨_,rfl,HM.out⟩
noncomputable def stateE (ps:List PF)(l:List Ev):Int:=open Classical in if b2E ps l≠0 then b2E ps l else if b2C ps l then 0 else 4
theorem b3h{ps:List PF}{l:List Ev}(h:stateE ps l=0):Prog ps∧b2C ps l∧l.length≤4000:=by
 unfold stateE at h;split at h
 ·rename_i h1;exact absurd h h1
 ·rename_i h1
  split at h
  ·rename_i h2
   have h3:b2E ps l=0:=by omega
   unfold b2E at h3;split at h3
   ·rename_i h4;exact absurd h3 h4
   ·rename_i h4
    split at h3
    ·omega
    ·exact⟨b6h (by omega),h2,by omega⟩
  ·omega
theorem b4G(ps:List PF)(l:List Ev)(vp vl:Value)(w:World)(h:Sl pfR w vp ps)(hl:Sl evR w vl l):Calls Try.prog 79 #[.agg #[vp],vl] w fun r w'=>r=.returned (.int .i64 (stateE ps l))∧Bel w w':=by
 have HSL:=Lib.hid h;have HEV:=Lib.hid hl;obtain⟨A,c,rfl,-⟩:=b0R h;obtain⟨Ae,ce,rfl,hll⟩:=b0R hl;have HB1:Hid (Bel w (w.alloc (.cells #[.slice A ps.length c] PGT))):=Lib.hid ((Bel.rfl_ w).al _);have HP1:=Lib.hid (Blk.new w PGT #[.slice A ps.length c]);have c0:=HP1.out.cell (i:=0) rfl;have HRT:=Lib.hid (fun W (hb:Bel w W)=>c0h ps l _ _ W (HSL.out.keep hb) (HEV.out.keep hb));have HT:Hid ((b2E ps l≠0→stateE ps l=b2E ps l)∧(b2E ps l=0→(b2C ps l→stateE ps l=0)∧(¬b2C ps l→stateE ps l=4))):=Lib.hid ⟨fun h=>by unfold stateE;rw[if_pos h],fun h=>⟨fun h2=>by unfold stateE;rw[if_neg (by rw[h];decide),if_pos h2],fun h2=>by unfold stateE;rw[if_neg (by rw[h];decide),if_neg h2]⟩⟩;unfold b7z at HRT;clear h hl;generalize stateE ps l=T at *;generalize b2E ps l=RE at *;go_enter Try.func79,Try.ntmps79;go_wp2_with fail
 refine(HRT.out _ HB1.out).mono ?_;rintro r w2 ⟨b2,⟨hne,rfl⟩ | ⟨h0,b,rfl,hb⟩⟩
 ·have HB2:=Lib.hid (HB1.out.tr b2);have d0:(RE != 0)=true:=by simpa using hne
  have HR:=Lib.hid (HT.out.1 hne);clear hne b2 HT c0;go_wp2;go_ret;exact⟨by rw[HR.out];rfl,HB2.out⟩
 subst h0;have HB2:=Lib.hid (HB1.out.tr b2);have HT2:=Lib.hid (HT.out.2 (by first | rfl | trivial));have HBB:=Lib.hid hb;clear b2 c0 HT hb;cases b with
 | true =>
  have HR:=Lib.hid (HT2.out.1 (HBB.out.1 rfl));go_wp2;go_ret;exact⟨by rw[HR.out];rfl,HB2.out⟩
 | false =>
  have HR:=Lib.hid (HT2.out.2 (fun h=>by have:=HBB.out.2 h;cases this));go_wp2;go_ret;exact⟨by rw[HR.out];rfl,HB2.out⟩
theorem b4L{ps:List PF}{l:List Ev}{j:Nat}{e:Ev}(h:l[j]? = some e)(s:Rp):Rp.evs ps (l.take (j+1)) s=(Rp.evs ps (l.take j) s).ev ps e:=by
 rw[b0z h,b4g];rfl
theorem b3b{ps:List PF}{l:List Ev}{s:Rp}(h:b2V ps l s){j:Nat}{e:Ev}(he:l[j]? = some e):Fit ps (Rp.evs ps (l.take j) s) e:=by
 have h1:l=l.take j++(e::l.drop (j+1)):=by
  obtain⟨hl,rfl⟩:=List.getElem?_eq_some_iff.1 he;rw[←List.drop_eq_getElem_cons hl,List.take_append_drop]
 rw[h1,b3L] at h;exact h.2.1
theorem c3t(ps:List PF)(s:Rp)(e:Ev):(s.ev ps e).frs.length≤s.frs.length+1∧(s.ev ps e).fns.length≤s.fns.length+1:=by
 unfold Rp.ev;split
 ·simp
 split
 ·simp only[List.length_dropLast];omega
 split
 ·split
  ·simp only[List.length_append,List.length_dropLast,List.length_singleton];omega
  ·omega
 ·omega
theorem b6i(ps:List PF):∀(l:List Ev) (s:Rp),(Rp.evs ps l s).frs.length≤s.frs.length+l.length∧(Rp.evs ps l s).fns.length≤s.fns.length+l.length
 | [],s=>by simp[Rp.evs]
 | e::l,s=>by
  have h1:=b6i ps l (s.ev ps e);have h2:=c3t ps s e;rw[Rp.evs,List.length_cons];omega
theorem c0z(ps:List PF)(hp:Prog ps)(l:List Ev)(hf:b2V ps l (Rp.start ps))(hlen:l.length≤4000)(T:Nat)(hT:T≤l.length)(vp vl:Value)(w:World)(h:Sl pfR w vp ps)(hl:Sl evR w vl l) :
  Calls Try.prog 80 #[.agg #[vp],vl,.int .i64 T] w fun x w'=>Bel w w'∧∃w1 r vfr vp2 vfn xs,Bel w w1∧x=.returned vfr∧RepD noG w1 ps r w' (Rp.evs ps (l.take T) (Rp.start ps)) vp2 vfr vfn xs:=by
 have HSL:=Lib.hid h;have HEV:=Lib.hid hl;have HF:=Lib.hid hf;have HPR:=Lib.hid hp;have HST:=Lib.hid hp.sizes;obtain⟨A,c,rfl,-⟩:=b0R h;obtain⟨Ae,ce,rfl,hll⟩:=b0R hl
 obtain⟨hce,hcm⟩:l.length≤ce∧(ce≤maxLen∧(Ae=none→ce=0)):=by
  obtain⟨A',c',he,h1,h2,-⟩:=hl;injection he with e1 _ e3;subst e1 e3;exact⟨h1,h2⟩
 have HB1:Hid (Bel w (w.alloc (.cells #[.slice A ps.length c] PGT))):=Lib.hid ((Bel.rfl_ w).al _);have HP1:=Lib.hid (Blk.new w PGT #[.slice A ps.length c]);have c0:=HP1.out.cell (i:=0) rfl;have HNR:=Lib.hid (b3d ps hp _ _ (h.keep HB1.out));have HCE:=Lib.hid hce;have HCM:=Lib.hid hcm;clear h hl hf hp hce hcm;go_enter Try.func80,Try.ntmps80;go_wp2_with fail
 generalize hW1:w.alloc (.cells #[.slice A ps.length c] PGT)=W1 at *;clear hW1;generalize w.heap.size=Q at *;refine HNR.out.mono ?_;rintro x w2 ⟨r,rfl,hM⟩;have HM:=Lib.hid hM;have HS2:Hid (Bel W1 w2):=Lib.hid (by obtain⟨_,_,_,_,hD⟩:=hM;exact hD.bel);have HM0:Hid (b6H noG W1 ps r w2 (Rp.evs ps (l.take 0) (Rp.start ps))):=Lib.hid hM;clear hM c0 HNR HP1;have hcc:T≤ce:=Nat.le_trans hT HCE.out;have hcm2:=HCM.out.1;have HSH:Hid (∀s:Rp,b6H noG W1 ps r w2 s→True):=Lib.hid (fun _ _=>trivial)
 have hAe:(if ce=0 then Ae else Ae.map (·.add 0))=Ae:=by cases Ae with
  | none=>split<;>rfl
  | some p=>split<;>simp[Addr.add]
 go_wp2;clear HM HSH;go_loopw [16] (fun i wr=>∃j:Nat,i=.int .i64 j∧j≤T∧Hid (b6H noG W1 ps r wr (Rp.evs ps (l.take j) (Rp.start ps)))) (fun i _=>T-(intOf i).toNat)
 case atStart=>exact⟨0,rfl,Nat.zero_le _,HM0⟩
 case round =>
  obtain⟨j,rfl,hj,HM⟩:=hrel;obtain⟨WO,hWO⟩:∃W,W=wr:=⟨_,rfl⟩;subst hWO;have HB:Hid (Bel W1 WO):=Lib.hid (by obtain⟨_,_,_,_,hD⟩:=HM.out;exact hD.bel);have i0:(0:Int)≤j:=by omega
  clear HM0 HS2;by_cases hlt:j<T
  ·have hdd:decide ((j:Int)<T)=true:=decide_eq_true (by omega);obtain⟨e,he⟩:∃e,l[j]? = some e:=⟨_,List.getElem?_eq_getElem (by omega)⟩;obtain⟨b,o,rfl,hea⟩:=HEV.out.event he;have HEA:=Lib.hid (hea.keep (HB1.out.tr HB.out));have HSN:=Lib.hid (b4L he (ps:=ps) (Rp.start ps));have hl1:=b6i ps (l.take j) (Rp.start ps);have hl2:(l.take j).length=j:=by rw[List.length_take];omega
   have HEN:=Lib.hid (fun W (hW:Bel WO W)=>b7V noG W1 ps r _ e W (HM.out.keep hW) (b3b HF.out he) HST.out (by
    have:(Rp.start ps).frs.length=1:=rfl;omega) (by
    have:(Rp.start ps).fns.length=1:=rfl;omega))
   have i1:(j:Int)<T:=by omega
   clear hea he hl1 hl2 HM;generalize Rp.evs ps (l.take j) (Rp.start ps)=s at *;go_upto_region 5 with(refine c0E (.tmp 18) (.tmp 9) (.tmp 19) rfl rfl rfl rfl rfl rfl b (o+j*6) (by exact rfl) e HEA.out (by exact rfl) (by exact rfl) ?_);have HB3:=Lib.hid ((Bel.rfl_ WO).al (.cells e.cells.toArray EVT));have HK:=Lib.hid (Blk.new WO EVT e.cells.toArray);generalize hW2:WO.alloc _=W2 at *;clear hW2 HB HEA;generalize WO.heap.size=K at *;replace HEN:=Lib.hid (HEN.out W2 HB3.out);have c0:=HK.out.cell (i:=0) (v:=.int .i64 e.kind) rfl;have c1:=HK.out.cell (i:=1) (v:=.int .i64 e.frame) rfl;have c2:=HK.out.cell (i:=2) (v:=.int .i64 e.at_) rfl;have c3:=HK.out.cell (i:=3) (v:=.int .i64 e.var) rfl;have c4:=HK.out.cell (i:=4) (v:=.int .i64 e.index) rfl;have c5:=HK.out.cell (i:=5) (v:=.int .i64 e.value) rfl;go_wp2_with fail
   refine HEN.out.mono ?_;rintro x w4 ⟨rfl,hM4⟩;have HM4:Hid (b6H noG W1 ps r w4 (Rp.evs ps (l.take (j+1)) (Rp.start ps))):=Lib.hid (by rw[HSN.out];exact hM4);clear hM4 HEN HK c0 c1 c2 c3 c4 c5 HSN HB3;go_wp2;go_roundw
   case rel=>exact⟨j+1,by go_num,by omega,HM4⟩
   case measure=>simp[intOf];omega
  have hdd:decide ((j:Int)<T)=false:=decide_eq_false (by omega);have hjl:j=T:=by omega
  clear hj hlt;subst hjl;obtain⟨vp,vfr,vfn,xs,hD⟩:=HM.out;have HD:=Lib.hid hD;have HX:=Lib.hid (HB1.out.tr HB.out);clear HM hD;have c1:=HD.out.blk.cell (i:=1) rfl;go_wp2;go_ret;exact⟨HX.out,_,r,vfr,vp,vfn,xs,HB1.out,rfl,HD.out⟩
end Go.Proofs.Ytgkpplbomciehaa
