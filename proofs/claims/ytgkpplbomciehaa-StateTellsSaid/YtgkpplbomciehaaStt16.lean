/- A run ends, and comes to a command: walked. Each lemma states its own conditions. -/
import Derived.Test.YtgkpplbomciehaaStt13
namespace Go.Proofs.Ytgkpplbomciehaa
set_option maxRecDepth 20000
set_option maxHeartbeats 4000000
open Go.RowKit
abbrev RNT:TypeId:=171
abbrev PRT:TypeId:=174
abbrev tys:List TypeId:=INT::PRT::rts
theorem Kept.types{ts ts':List TypeId}{B hi:Nat}{w w':World}(h:Kept ts B hi w w')(hs:∀t,t∈ts→t∈ts'):Kept ts' B hi w w':=
 ⟨h.os,h.tape,h.output,h.size,h.low,fun k c t z hk ht=>h.mid k c t z hk fun h'=>ht (hs t h')⟩
structure Stays(B lo:Nat)(w w':World):Prop where
 k:Kept rts B lo w w'
 j:Kept tys B w.heap.size w w'
theorem Stays.tr{B lo:Nat}{a b c:World}(h:Stays B lo a b)(g:Stays B lo b c):Stays B lo a c:=⟨h.k.tr g.k,h.j.tr (g.j.mono h.j.size)⟩
theorem Stays.ofAny{B lo:Nat}{w w':World}(h:∀hi,Kept rts B hi w w'):Stays B lo w w':=⟨h lo,(h _).types fun _ h=>List.mem_cons_of_mem _ (List.mem_cons_of_mem _ h)⟩
theorem Stays.rfl_(B lo:Nat)(w:World):Stays B lo w w:=.ofAny fun _hi=>Kept.rfl_ _ _ _ _
theorem Stays.bel{B lo:Nat}{w w':World}(h:Bel w w')(hB:B≤w.heap.size):Stays B lo w w':=.ofAny fun _=>Kept.bel h hB
theorem Stays.told{B lo:Nat}{w w':World}(h:Kept rts B w.heap.size w w')(hl:lo≤w.heap.size):Stays B lo w w':=⟨h.mono hl,h.types fun _ h=>List.mem_cons_of_mem _ (List.mem_cons_of_mem _ h)⟩
theorem Stays.set{B lo:Nat}{w:World}{k:Nat}{t:TypeId}{cs:Array Value}(hb:Blk w k t cs)(hB:B≤k)(hl:lo≤k)(ht:t∈tys)(i:Nat)(u:Value):Stays B lo w (w.setCell ⟨k,i,none⟩ u):=⟨Kept.set_hi hB hl i u,Kept.set_ty hb hB ht i u⟩
theorem Stays.mono{B lo lo':Nat}{w w':World}(h:Stays B lo w w')(hl:lo'≤lo):Stays B lo' w w':=⟨h.k.mono hl,h.j⟩
theorem c0e{w:World}{base size n:Nat}{e:TypeId}{v:Value}{xs:List Value}(ho:w.ownsRow base e size v n xs){k:Nat}(hk:∀g,v.ownBlock=some g→g≠k)(i:Nat)(u:Value):(w.setCell ⟨k,i,none⟩ u).ownsRow base e size v n xs:=by
 refine⟨ho.1,?_⟩;rcases ho.2 with hn | ⟨g,cap,cur,rfl,hbg,hgg,rest⟩
 ·exact .inl hn
 ·exact .inr ⟨g,cap,cur,rfl,hbg,(heap_setCell_other w ⟨k,i,none⟩ g u (hk g rfl)).trans hgg,rest⟩
section
variable {w0 w:World}{ps:List PF}{fuel:Int}{fs:FS}{L r:Nat}{inp:List Int}{steps made deep:Int}{out:List Ev}
theorem RnM.keep(h:RnM w0 ps fuel fs L r w inp steps made deep out){W:World}(hW:Bel w W):RnM w0 ps fuel fs L r W inp steps made deep out:=by
 obtain⟨hb0,hr0,hrL,vp,vin,vf,ve,hB,hps,hin,hfs,hvf,hev⟩:=h;exact⟨Bel.trB hb0 hW hb0.size,hr0,hrL,vp,vin,vf,ve,hB.keep hW,hps,hin,hW.own hfs,hvf,hW.own hev⟩
theorem RnM.aside(h:RnM w0 ps fuel fs L r w inp steps made deep out){k:Nat}{t:TypeId}{cs:Array Value}(hb:Blk w k t cs)(hk:L≤k)(h1:RNT≠t)(h2:EVT≠t)(i:Nat)(u:Value):RnM w0 ps fuel fs L r (w.setCell ⟨k,i,none⟩ u) inp steps made deep out:=by
 obtain⟨hb0,hr0,hrL,vp,vin,vf,ve,hB,hps,hin,hfs,hvf,hev⟩:=h;exact⟨hb0.setCell (p:=⟨k,i,none⟩) (by dsimp only;omega) _,hr0,hrL,vp,vin,vf,ve,hB.aside hb h1 i u,hps,hin,c0e hfs (fun g hg=>by have:=hvf.1 g hg;omega) i u,hvf,b1E hev hb h2 i u⟩
theorem RnM.steps_(h:RnM w0 ps fuel fs L r w inp steps made deep out)(n:Int)(lo:Nat):RnM w0 ps fuel fs L r (w.setCell ⟨r,3,none⟩ (.int .i64 n)) inp n made deep out∧Kept rts w0.heap.size lo w (w.setCell ⟨r,3,none⟩ (.int .i64 n)):=by
 obtain⟨hb0,hr0,hrL,vp,vin,vf,ve,hB,hps,hin,hfs,hvf,hev⟩:=h;exact⟨⟨hb0.setCell (p:=⟨r,3,none⟩) hr0 _,hr0,hrL,vp,vin,vf,ve,hB.set_ 3 _,hps,hin,b1E hfs hB (by decide) 3 _,hvf,b1E hev hB (by decide) 3 _⟩,Kept.set_ty hB hr0 (by decide) 3 _⟩
theorem RnM.made_(h:RnM w0 ps fuel fs L r w inp steps made deep out)(n:Int)(lo:Nat):RnM w0 ps fuel fs L r (w.setCell ⟨r,4,none⟩ (.int .i64 n)) inp steps n deep out∧Kept rts w0.heap.size lo w (w.setCell ⟨r,4,none⟩ (.int .i64 n)):=by
 obtain⟨hb0,hr0,hrL,vp,vin,vf,ve,hB,hps,hin,hfs,hvf,hev⟩:=h;exact⟨⟨hb0.setCell (p:=⟨r,4,none⟩) hr0 _,hr0,hrL,vp,vin,vf,ve,hB.set_ 4 _,hps,hin,b1E hfs hB (by decide) 4 _,hvf,b1E hev hB (by decide) 4 _⟩,Kept.set_ty hB hr0 (by decide) 4 _⟩
theorem RnM.deep_(h:RnM w0 ps fuel fs L r w inp steps made deep out)(n:Int)(lo:Nat):RnM w0 ps fuel fs L r (w.setCell ⟨r,5,none⟩ (.int .i64 n)) inp steps made n out∧Kept rts w0.heap.size lo w (w.setCell ⟨r,5,none⟩ (.int .i64 n)):=by
 obtain⟨hb0,hr0,hrL,vp,vin,vf,ve,hB,hps,hin,hfs,hvf,hev⟩:=h;exact⟨⟨hb0.setCell (p:=⟨r,5,none⟩) hr0 _,hr0,hrL,vp,vin,vf,ve,hB.set_ 5 _,hps,hin,b1E hfs hB (by decide) 5 _,hvf,b1E hev hB (by decide) 5 _⟩,Kept.set_ty hB hr0 (by decide) 5 _⟩
theorem RnM.in_(h:RnM w0 ps fuel fs L r w inp steps made deep out){v:Value}{l:List Int}(hv:Sl b2l w0 v l)(lo:Nat):RnM w0 ps fuel fs L r (w.setCell ⟨r,1,none⟩ v) l steps made deep out∧Kept rts w0.heap.size lo w (w.setCell ⟨r,1,none⟩ v):=by
 obtain⟨hb0,hr0,hrL,vp,vin,vf,ve,hB,hps,hin,hfs,hvf,hev⟩:=h;exact⟨⟨hb0.setCell (p:=⟨r,1,none⟩) hr0 _,hr0,hrL,vp,v,vf,ve,hB.set_ 1 _,hps,hv,b1E hfs hB (by decide) 1 _,hvf,b1E hev hB (by decide) 1 _⟩,Kept.set_ty hB hr0 (by decide) 1 _⟩
theorem RnM.first(h:RnM w0 ps fuel fs L r w inp steps made deep out):w.cell? ⟨r,6,none⟩=some fs.v∧w.ownsRow w0.heap.size INT 1 fs.v fs.l.length (fs.l.map (Value.int .i64))∧∀k,fs.v.ownBlock=some k→k<L:=by
 obtain⟨-,-,-,vp,vin,vf,ve,hB,-,-,hfs,⟨hvf,rfl⟩,-⟩:=h;exact⟨hB.cell rfl,hfs,hvf⟩
theorem RnM.prog(h:RnM w0 ps fuel fs L r w inp steps made deep out):∃vp,w.cell? ⟨r,0,none⟩=some vp∧Sl pfR w0 vp ps:=by
 obtain⟨-,-,-,vp,vin,vf,ve,hB,hps,-⟩:=h;exact⟨vp,hB.cell rfl,hps⟩
theorem RnM.bel(h:RnM w0 ps fuel fs L r w inp steps made deep out):Bel w0 w:=h.1
theorem RnM.blk(h:RnM w0 ps fuel fs L r w inp steps made deep out):∃vp vin vf ve,Blk w r RNT #[vp,vin,.int .i64 fuel,.int .i64 steps,.int .i64 made,.int .i64 deep,vf,ve]:=by
 obtain⟨hb0,hr0,hrL,vp,vin,vf,ve,hB,-⟩:=h;exact⟨vp,vin,vf,ve,hB⟩
end
section
variable {w0 w:World}{ps:List PF}{fuel:Int}{fs:FS}{L r lo fb:Nat}{inp:List Int}{steps made deep num at_:Int}{out:List Ev}{vs:List (List Int)}
theorem b4f(hR:RnM w0 ps fuel fs L r w inp steps made deep out)(hl:out.length≤100000)(hF:FrM w lo fb num at_ vs)(a how:Int) :
  Calls Try.prog 115 #[.pointer (some ⟨r,0,none⟩),.pointer (some ⟨fb,0,none⟩),.int .i64 a,.int .i64 how] w fun x w'=>x=.returned (.bool false)∧RnM w0 ps fuel fs L r w' inp steps made deep (out++[⟨7,num,a,0,0,how⟩])∧Kept rts w0.heap.size w.heap.size w w':=by
 have HT:=Lib.hid (b2x w0 ps fuel fs L r inp steps made deep out 7 num a 0 0 how w hR hl);obtain⟨-,v,hB,-⟩:=hF;have f0:=hB.cell (i:=0) (v:=.int .i64 num) rfl;clear hR hl hB;go_enter Try.func115,Try.ntmps115;go_wp2_with fail
 refine HT.out.mono ?_;rintro x w1 ⟨rfl,hR1,hK1⟩;have HR1:=Lib.hid hR1;have HK1:=Lib.hid hK1;clear hR1 hK1;go_wp2;go_ret;exact⟨rfl,HR1.out,HK1.out⟩
theorem c2H(hR:RnM w0 ps fuel fs L r w inp fuel made deep out)(hl:out.length≤100000)(hF:FrM w lo fb num at_ vs)(a:Int) :
  Calls Try.prog 158 #[.pointer (some ⟨r,0,none⟩),.pointer (some ⟨fb,0,none⟩),.int .i64 a] w fun x w'=>x=.returned (.bool false)∧RnM w0 ps fuel fs L r w' inp fuel made deep (out++[⟨7,num,a,0,0,1⟩])∧Kept rts w0.heap.size w.heap.size w w':=by
 have HT:=Lib.hid (fun W (hW:Bel w W)=>@b4f w0 W ps fuel fs L r lo fb inp fuel made deep num at_ out vs (hR.keep hW) hl (hF.keep hW) a 1);have HSZ:=Lib.hid hR.bel.size;obtain⟨vp,vin,vf,ve,hB⟩:=hR.blk;have r2:=hB.cell (i:=2) (v:=.int .i64 fuel) rfl;have r3:=hB.cell (i:=3) (v:=.int .i64 fuel) rfl;clear hR hl hB hF;go_enter Try.func158,Try.ntmps158;go_wp2;go_quiet (fail)
 go_wp2_with fail
 refine(HT.out _ (Bel.drN (Bel.rfl_ w) _)).mono ?_;rintro x w1 ⟨rfl,hR1,hK1⟩;have HR1:=Lib.hid hR1;have HK1:=Lib.hid (Kept.tr (Kept.bel (Bel.drN (Bel.rfl_ w) _) HSZ.out) hK1);clear hR1 hK1;go_wp2;go_ret;exact⟨rfl,HR1.out,HK1.out⟩
theorem c3V(hR:RnM w0 ps fuel fs L r w inp steps made deep out)(hl:out.length≤100000)(hF:FrM w lo fb num at_ vs)(hlo:L≤lo)(hne:steps≠fuel)(hs0:0≤steps)(hs1:steps≤100000)(a:Int) :
  Calls Try.prog 158 #[.pointer (some ⟨r,0,none⟩),.pointer (some ⟨fb,0,none⟩),.int .i64 a] w fun x w'=>x=.returned (.bool true)∧RnM w0 ps fuel fs L r w' inp (steps+1) made deep (out++[⟨1,num,a,0,0,0⟩])∧FrM w' lo fb num a vs∧Stays w0.heap.size lo w w':=by
 have HSZ:=Lib.hid hR.bel.size;have HR:=Lib.hid hR;have HF:=Lib.hid hF;have HLT:=Lib.hid hF;obtain⟨vp,vin,vf,ve,hB⟩:=hR.blk;obtain⟨hfb,v,hFB,hvs⟩:=hF;have r2:=hB.cell (i:=2) (v:=.int .i64 fuel) rfl;have r3:=hB.cell (i:=3) (v:=.int .i64 steps) rfl;have rf:=hB.frozen 3;have hdn:(steps==fuel)=false:=by simpa using hne
 have HBK:=Lib.hid hB;have HFB:=Lib.hid hFB;have HLO:=Lib.hid hlo;have HFLO:=Lib.hid hfb;have HL:=Lib.hid hl;clear hR hl hB hFB hvs hne hlo hfb;go_enter Try.func158,Try.ntmps158;go_wp2;go_quiet (fail)
 go_upto_region 3 with fail;have HB1:=Lib.hid (Bel.drN (Bel.rfl_ w) nq);have HR1:=Lib.hid (HR.out.keep HB1.out);have HF1:=Lib.hid (HF.out.keep HB1.out);have HK1:=Lib.hid (Stays.bel (lo:=lo) HB1.out HSZ.out);have HBK1:=Lib.hid (HBK.out.keep HB1.out);have HFB1:=Lib.hid (HFB.out.keep HB1.out);clear HBK HFB HB1 HR HF r2 r3 rf;generalize w.drewN nq=W1 at *;have r3:=HBK1.out.cell (i:=3) (v:=.int .i64 steps) rfl;have rf:=HBK1.out.frozen 3;go_upto_region 4 with fail;have HR2:=Lib.hid (HR1.out.steps_ (steps+1) lo).1;have HK2:=Lib.hid (HK1.out.tr (Stays.ofAny fun hi=>(HR1.out.steps_ (steps+1) hi).2));have HF2:=Lib.hid (HF1.out.set_r HBK1.out 3 (.int .i64 (steps+1)));have HFB2:=Lib.hid (HFB1.out.aside HBK1.out (by decide) 3 (.int .i64 (steps+1)));clear HR1 HK1 HF1 HBK1 HFB1 r3 rf;generalize W1.setCell ⟨r,3,none⟩ (.int .i64 (steps+1))=W2 at *;have f1:=HFB2.out.cell (i:=1) (v:=.int .i64 at_) rfl;have ff:=HFB2.out.frozen 1;go_upto_region 5 with fail;have HR3:=Lib.hid (HR2.out.aside HFB2.out (Nat.le_trans HLO.out HFLO.out) (by decide) (by decide) 1 (.int .i64 a));have HK3:=Lib.hid (HK2.out.tr (Stays.set HFB2.out (Nat.le_trans (Nat.le_trans (Nat.le_of_lt (Nat.lt_of_le_of_lt HR2.out.2.1 HR2.out.2.2.1)) HLO.out) HFLO.out) HFLO.out (by decide) 1 (.int .i64 a)));have HF3:=Lib.hid (HF2.out.set_at a);have HFB3:=Lib.hid (HFB2.out.set_ 1 (.int .i64 a));clear HR2 HK2 HF2 HFB2 f1 ff;generalize W2.setCell ⟨fb,1,none⟩ (.int .i64 a)=W3 at *;have f0:=HFB3.out.cell (i:=0) (v:=.int .i64 num) rfl;go_wp2_with fail
 refine(b2x w0 ps fuel fs L r inp (steps+1) made deep out 1 num a 0 0 0 W3 HR3.out HL.out).mono ?_;rintro x w1 ⟨rfl,hR4,hK4⟩;have HR4:=Lib.hid hR4;have HF4:=Lib.hid (HF3.out.kept hK4 (Nat.le_refl _));have HK4:=Lib.hid (HK3.out.tr (Stays.told hK4 (Nat.le_trans HFLO.out (Nat.le_of_lt HFB3.out.lt))));clear hR4 hK4 HR3 HK3 HF3 HFB3;go_wp2;go_ret;exact⟨rfl,HR4.out,HF4.out,HK4.out⟩
end
section
variable {o:Oper}{ρ:Operand→Value}{W:World}{x:Operand}{b f:Nat}{v:Value}
theorem c3R(ho:o.op=.load 24 x)(hx:ρ x=.pointer (some ⟨b,f,none⟩))(hc:W.cell? ⟨b,f,none⟩=some v):(execOp ρ o).run Try.prog W=.ok (.value v) W:=by
 simp[execOp,ho,hx,hc,go_sem]
end
section
variable {w0 w:World}{ps:List PF}{fuel:Int}{fs:FS}{L r lo fb:Nat}{inp:List Int}{steps made deep num at_:Int}{out:List Ev}{vs:List (List Int)}
theorem b7H(hR:RnM w0 ps fuel fs L r w inp steps made deep out)(hl:out.length≤100000)(hF:FrM w lo fb num at_ vs){z:List Int}(hf:b4Z z vs){e:PE}(he:e.parts z=0){val:Value}(hv:PEV w e val)(hh:(e.val vs).2=0) :
  Calls Try.prog 162 #[.pointer (some ⟨r,0,none⟩),.pointer (some ⟨fb,0,none⟩),val] w fun x w'=>x=.returned (.tuple #[.int .i64 (e.val vs).1,.bool true])∧Bel w w':=by
 obtain⟨v,rfl,hvv⟩:=id hv;have HSZ:=Lib.hid hR.bel.size;have HB1:Hid (Bel w (w.alloc (.cells #[.int .i64 e.kind,.int .i64 e.n,v] 47))):=Lib.hid ((Bel.rfl_ w).al _);have HQ1:=Lib.hid (Blk.new w 47 #[.int .i64 e.kind,.int .i64 e.n,v]);have HR:=Lib.hid hR;have HF:=Lib.hid hF;have HL:=Lib.hid hl;obtain⟨-,vv,hFB,hvs⟩:=id hF;have HFB:=Lib.hid hFB;have HV:=Lib.hid (fun W (hW:Bel w W)=>c1E z vs hf e he _ _ W (hv.keep hW) (hvs.keep hW).sl);have HH:=Lib.hid hh;clear hR hF hl hFB hvs hf he hv hvv hh;generalize hxn:(e.val vs).1=xn at *;generalize hxh:(e.val vs).2=xh at *;clear hxn hxh;go_enter Try.func162,Try.ntmps162;go_upto_region 1 with fail;generalize hW1:w.alloc (.cells #[.int .i64 e.kind,.int .i64 e.n,v] 47)=W1 at *;clear hW1;refine wp_region_held_drew (S:=fun W=>Bel W1 W) (by kernel_rfl) ((Bel.rfl_ W1).dr) (fun hS=>?_);refine b0A (i:=0) (some 11) (.agg #[.int .i64 e.kind,.int .i64 e.n,v]) rfl hS (fun W hb=>b0S 47 (.tmp 5) b3x w.heap.size 0 [.int .i64 e.kind,.int .i64 e.n,v] (b0g (HQ1.out.keep hb) 0 rfl) rfl) ?_;refine b0A (i:=1) (some 12) (.pointer (some ⟨fb,0,none⟩)) rfl hS (fun W _=>by kernel_rfl) ?_;refine b0A (i:=2) (some 13) (.pointer (some ⟨fb,0,none⟩)) rfl hS (fun W _=>by kernel_rfl) ?_;refine b0A (i:=3) (some 14) (.pointer (some ⟨fb,2,none⟩)) rfl hS (fun W _=>by kernel_rfl) ?_;refine b0A (i:=4) (some 15) (vv) rfl hS (fun W hb=>c3R rfl (by kernel_rfl) ((HFB.out.keep (HB1.out.tr hb)).cell (i:=2) (v:=vv) rfl)) ?_;refine b0v (i:=5) (some 16) rfl 70 #[.agg #[.int .i64 e.kind,.int .i64 e.n,v],vv] (HV.out _ (HB1.out.tr hS)) ?_;rintro x1 W9 ⟨rfl,hb⟩;refine⟨_,rfl,hS.tr hb,fun hS=>?_⟩;refine b0A (i:=6) (some 10) (.tuple #[.int .i64 xn,.int .i64 xh]) rfl hS (fun W _=>by kernel_rfl) ?_;refine b0A (i:=7) (some 17) (.int .i64 xn) rfl hS (fun W _=>by kernel_rfl) ?_;refine b0A (i:=8) (some 18) (.int .i64 xh) rfl hS (fun W _=>by kernel_rfl) ?_;refine b0A (i:=9) (some 8) (.int .i64 xn) rfl hS (fun W _=>by kernel_rfl) ?_
 refine b0A (i:=10) (some 9) (.int .i64 xh) rfl hS (fun W _=>by kernel_rfl) ?_;refine wpAnyH_done (by kernel_rfl) ?_ _;try simp only[Act.put,List.setIfInBounds_toArray,List.set_cons_zero,List.set_cons_succ]
 have HB2:=Lib.hid (HB1.out.tr hS);clear hS HV HQ1 HB1;have hxx:xh=0:=HH.out;subst hxx;clear HH;go_wp2;go_ret2
 exact⟨rfl,HB2.out⟩
theorem b5t(hR:RnM w0 ps fuel fs L r w inp steps made deep out)(hl:out.length≤100000)(hF:FrM w lo fb num at_ vs){z:List Int}(hf:b4Z z vs){e:PE}(he:e.parts z=0){val:Value}(hv:PEV w e val)(hh:(e.val vs).2≠0) :
  Calls Try.prog 162 #[.pointer (some ⟨r,0,none⟩),.pointer (some ⟨fb,0,none⟩),val] w fun x w'=>x=.returned (.tuple #[.int .i64 0,.bool false])∧RnM w0 ps fuel fs L r w' inp steps made deep (out++[⟨7,num,at_,0,0,(e.val vs).2⟩])∧Kept rts w0.heap.size w.heap.size w w':=by
 obtain⟨v,rfl,hvv⟩:=id hv;have HSZ:=Lib.hid hR.bel.size;have HB1:Hid (Bel w (w.alloc (.cells #[.int .i64 e.kind,.int .i64 e.n,v] 47))):=Lib.hid ((Bel.rfl_ w).al _);have HQ1:=Lib.hid (Blk.new w 47 #[.int .i64 e.kind,.int .i64 e.n,v]);have HR:=Lib.hid hR;have HF:=Lib.hid hF;have HL:=Lib.hid hl;obtain⟨-,vv,hFB,hvs⟩:=id hF;have HFB:=Lib.hid hFB;have HV:=Lib.hid (fun W (hW:Bel w W)=>c1E z vs hf e he _ _ W (hv.keep hW) (hvs.keep hW).sl);have HH:=Lib.hid hh;clear hR hF hl hFB hvs hf he hv hvv hh;generalize hxn:(e.val vs).1=xn at *;generalize hxh:(e.val vs).2=xh at *;clear hxn hxh;go_enter Try.func162,Try.ntmps162;go_upto_region 1 with fail;generalize hW1:w.alloc (.cells #[.int .i64 e.kind,.int .i64 e.n,v] 47)=W1 at *;clear hW1;refine wp_region_held_drew (S:=fun W=>Bel W1 W) (by kernel_rfl) ((Bel.rfl_ W1).dr) (fun hS=>?_);refine b0A (i:=0) (some 11) (.agg #[.int .i64 e.kind,.int .i64 e.n,v]) rfl hS (fun W hb=>b0S 47 (.tmp 5) b3x w.heap.size 0 [.int .i64 e.kind,.int .i64 e.n,v] (b0g (HQ1.out.keep hb) 0 rfl) rfl) ?_;refine b0A (i:=1) (some 12) (.pointer (some ⟨fb,0,none⟩)) rfl hS (fun W _=>by kernel_rfl) ?_;refine b0A (i:=2) (some 13) (.pointer (some ⟨fb,0,none⟩)) rfl hS (fun W _=>by kernel_rfl) ?_;refine b0A (i:=3) (some 14) (.pointer (some ⟨fb,2,none⟩)) rfl hS (fun W _=>by kernel_rfl) ?_;refine b0A (i:=4) (some 15) (vv) rfl hS (fun W hb=>c3R rfl (by kernel_rfl) ((HFB.out.keep (HB1.out.tr hb)).cell (i:=2) (v:=vv) rfl)) ?_;refine b0v (i:=5) (some 16) rfl 70 #[.agg #[.int .i64 e.kind,.int .i64 e.n,v],vv] (HV.out _ (HB1.out.tr hS)) ?_;rintro x1 W9 ⟨rfl,hb⟩;refine⟨_,rfl,hS.tr hb,fun hS=>?_⟩;refine b0A (i:=6) (some 10) (.tuple #[.int .i64 xn,.int .i64 xh]) rfl hS (fun W _=>by kernel_rfl) ?_;refine b0A (i:=7) (some 17) (.int .i64 xn) rfl hS (fun W _=>by kernel_rfl) ?_;refine b0A (i:=8) (some 18) (.int .i64 xh) rfl hS (fun W _=>by kernel_rfl) ?_;refine b0A (i:=9) (some 8) (.int .i64 xn) rfl hS (fun W _=>by kernel_rfl) ?_
 refine b0A (i:=10) (some 9) (.int .i64 xh) rfl hS (fun W _=>by kernel_rfl) ?_;refine wpAnyH_done (by kernel_rfl) ?_ _;try simp only[Act.put,List.setIfInBounds_toArray,List.set_cons_zero,List.set_cons_succ]
 have HB2:=Lib.hid (HB1.out.tr hS);clear hS HV HQ1 HB1;have d1:(xh != 0)=true:=by have:=HH.out;simpa using this
 clear HH;have f1:=(HFB.out.keep HB2.out).cell (i:=1) (v:=.int .i64 at_) rfl;go_wp2_with fail
 refine(b4f (HR.out.keep HB2.out) HL.out (HF.out.keep HB2.out) at_ xh).mono ?_;rintro x w3 ⟨rfl,hR3,hK3⟩;have HR3:=Lib.hid hR3;have HK3:=Lib.hid ((Kept.bel HB2.out HSZ.out).tr (hK3.mono HB2.out.size));clear hR3 hK3;go_wp2;go_ret2
 exact⟨rfl,HR3.out,HK3.out⟩
end
section
variable {w0 w:World}{ps:List PF}{fuel:Int}{fs:FS}{L r lo fb:Nat}{inp:List Int}{steps made deep num at_:Int}{out:List Ev}{vs:List (List Int)}
theorem b3k(hR:RnM w0 ps fuel fs L r w inp steps made deep out)(hl:out.length≤100000)(hF:FrM w lo fb num at_ vs)(hlo:L≤lo){v i:Int}{l:List Int}(hv0:0≤v)(hvl:vs[v.toNat]? = some l)(hi0:0≤i)(hi:i<l.length)(a n:Int) :
  Calls Try.prog 163 #[.pointer (some ⟨r,0,none⟩),.pointer (some ⟨fb,0,none⟩),.int .i64 a,.int .i64 v,.int .i64 i,.int .i64 n] w fun x w'=>x=.returned (.tuple #[])∧RnM w0 ps fuel fs L r w' inp steps made deep (out++[⟨2,num,a,v,i,n⟩])∧FrM w' lo fb num at_ (b2c vs v i n)∧Stays w0.heap.size lo w w':=by
 have HC:Hid (b2c vs v i n=vs.set v.toNat (l.set i.toNat n)):=Lib.hid (by unfold b2c;rw[b1A hvl]);have HSZ:=Lib.hid hR.bel.size;obtain⟨hfb,vv,hFB,gs,hgs⟩:=hF;obtain⟨b,c,g,rfl,hg,hc,hlg,hG⟩:=hgs.cell hvl;obtain⟨x,hx⟩:∃x,l[i.toNat]? = some x:=⟨_,List.getElem?_eq_getElem (by omega)⟩;have HGS:=Lib.hid (hgs.set (j:=i.toNat) hvl hg n);have HR2:=Lib.hid (hR.aside hG (Nat.le_trans hlo hlg) (by decide) (by decide) i.toNat (.int .i64 n));have HK2:Hid (Stays w0.heap.size lo w (w.setCell ⟨g,i.toNat,none⟩ (.int .i64 n))):=Lib.hid (Stays.set hG (Nat.le_trans (Nat.le_trans (Nat.le_of_lt (Nat.lt_of_le_of_lt hR.2.1 hR.2.2.1)) hlo) hlg) hlg (by decide) i.toNat (.int .i64 n));have HFB2:=Lib.hid (hFB.aside hG (by decide) i.toNat (.int .i64 n));have HFLO:=Lib.hid hfb;have HL:=Lib.hid hl;have f2:=hFB.cell (i:=2) (v:=.slice (some ⟨b,0,none⟩) vs.length c) rfl;have i1:v<vs.length:=by have:=(List.getElem?_eq_some_iff.1 hvl).1;omega
 have g1:w.cell? ⟨g,i.toNat,none⟩=some (.int .i64 x):=hG.cell (by unfold b0w;simp[hx]);have gf:=hG.frozen i.toNat;clear hR hl hFB hgs hG hvl hg hx hfb hlo hlg;go_enter Try.func163,Try.ntmps163;go_upto_region 1 with fail;have HF2:Hid (FrM (w.setCell ⟨g,i.toNat,none⟩ (.int .i64 n)) lo fb num at_ (b2c vs v i n)):=Lib.hid ⟨HFLO.out,_,HFB2.out,gs,HC.out▸HGS.out⟩;clear HGS g1 gf hc f2;generalize w.setCell ⟨g,i.toNat,none⟩ (.int .i64 n)=W2 at *;have f0:=HFB2.out.cell (i:=0) (v:=.int .i64 num) rfl;go_wp2_with fail
 refine(b2x w0 ps fuel fs L r inp steps made deep out 2 num a v i n W2 HR2.out HL.out).mono ?_;rintro x w3 ⟨rfl,hR3,hK3⟩;have HR3:=Lib.hid hR3;have HF3:=Lib.hid (HF2.out.kept hK3 (Nat.le_refl _));have HK3:=Lib.hid (HK2.out.tr (Stays.told hK3 (Nat.le_trans HFLO.out (Nat.le_of_lt HFB2.out.lt))));clear hR3 hK3;go_wp2;exact bodyPost_end (v:=.tuple #[]) (results_none rfl _ _ _) rfl ⟨rfl,HR3.out,HF3.out,HK3.out⟩
end
end Go.Proofs.Ytgkpplbomciehaa
