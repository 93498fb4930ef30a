/- How many commands there are, by the program: walked. Each lemma states its own conditions. -/
import Derived.Test.YtgkpplbomciehaaStt08
namespace Go.Proofs.Ytgkpplbomciehaa
set_option maxRecDepth 20000
set_option maxHeartbeats 8000000
open Go.RowKit
theorem b3c(w:World)(b i:Nat)(u:Value):w.grownBy (w.setCell ⟨b,i,none⟩ u) (some b):=
 ⟨rfl,rfl,rfl,by simp,fun k _ hk=>heap_setCell_other w _ k u (fun e=>hk (by rw[e]))⟩
theorem b9X(w0 ws:World)(R:Nat):c1M 156 #[.pointer (some ⟨R,0,none⟩)] 3 b5D OkM w0 ws R:=by
 intro x d s cs W hok hcs _ hb;obtain⟨hs0,hs1,-⟩:=hok;obtain⟨vi,ve,va,vt,vs,rfl,-⟩:=b1Z hcs;generalize x.kind=xk at *;generalize x.var=xv at *;generalize x.fn=xf at *;generalize x.index.kind=ik at *;generalize x.index.n=iN at *;generalize x.expr.kind=ek at *;generalize x.expr.n=eN at *;have HB:=Lib.hid (hb.keep ((Bel.rfl_ W).al (.cells #[.int .i64 xk,.int .i64 xv,.int .i64 xf,.int .i64 ik,.int .i64 iN,vi,.int .i64 ek,.int .i64 eN,ve,va,vt,vs] 120)));have HG:Hid (W.grownBy (W.alloc (.cells #[.int .i64 xk,.int .i64 xv,.int .i64 xf,.int .i64 ik,.int .i64 iN,vi,.int .i64 ek,.int .i64 eN,ve,va,vt,vs] 120)) (some R)):=Lib.hid (((Bel.rfl_ W).al _).grown _);have x0:=HB.out.cell (i:=0) (v:=.int .i64 s) rfl;have f0:=HB.out.frozen 0;clear hb hcs;show Calls Try.prog 156 #[.agg #[.int .i64 xk,.int .i64 xv,.int .i64 xf,.int .i64 ik,.int .i64 iN,vi,.int .i64 ek,.int .i64 eN,ve,va,vt,vs],.int .i64 d,.pointer (some ⟨R,0,none⟩)] W _;go_enter Try.func156,Try.ntmps156;go_wp2;go_ret;exact⟨rfl,HG.out.trans (b3c _ _ _ _),HB.out.set_ 0 _⟩
theorem c0N(w0 ws:World)(R:Nat):c1M 138 #[.pointer (some ⟨R,0,none⟩)] 3 b4h OkM w0 ws R:=by
 intro x d s cs W hok hcs _ hb;obtain⟨hs0,hs1,-⟩:=hok;obtain⟨vi,ve,va,vt,vs,rfl,-⟩:=b1Z hcs;generalize x.kind=xk at *;generalize x.var=xv at *;generalize x.fn=xf at *;generalize x.index.kind=ik at *;generalize x.index.n=iN at *;generalize x.expr.kind=ek at *;generalize x.expr.n=eN at *;have HB:=Lib.hid (hb.keep ((Bel.rfl_ W).al (.cells #[.int .i64 xk,.int .i64 xv,.int .i64 xf,.int .i64 ik,.int .i64 iN,vi,.int .i64 ek,.int .i64 eN,ve,va,vt,vs] 120)));have HG:Hid (W.grownBy (W.alloc (.cells #[.int .i64 xk,.int .i64 xv,.int .i64 xf,.int .i64 ik,.int .i64 iN,vi,.int .i64 ek,.int .i64 eN,ve,va,vt,vs] 120)) (some R)):=Lib.hid (((Bel.rfl_ W).al _).grown _);have x0:=HB.out.cell (i:=0) (v:=.int .i64 s) rfl;have f0:=HB.out.frozen 0;clear hb hcs;show Calls Try.prog 138 #[.agg #[.int .i64 xk,.int .i64 xv,.int .i64 xf,.int .i64 ik,.int .i64 iN,vi,.int .i64 ek,.int .i64 eN,ve,va,vt,vs],.int .i64 d,.pointer (some ⟨R,0,none⟩)] W _;by_cases h40:s+1≤40
 ·have d40:decide (s+1≤40)=true:=decide_eq_true h40;by_cases h5:d≤5
  ·have d5:decide (d≤5)=true:=decide_eq_true h5;have HR:Hid (b4h s x d=(s+1,true)):=Lib.hid (by unfold b4h;rw[d40,d5];rfl);generalize b4h s x d=T at *;go_enter Try.func138,Try.ntmps138;go_wp2;go_ret;exact⟨by rw[HR.out];rfl,HG.out.trans (b3c _ _ _ _),by rw[HR.out];exact HB.out.set_ 0 _⟩
  ·have d5:decide (d≤5)=false:=decide_eq_false h5;have HR:Hid (b4h s x d=(s+1,false)):=Lib.hid (by unfold b4h;rw[d40,d5];rfl);generalize b4h s x d=T at *;go_enter Try.func138,Try.ntmps138;go_wp2;go_ret;exact⟨by rw[HR.out];rfl,HG.out.trans (b3c _ _ _ _),by rw[HR.out];exact HB.out.set_ 0 _⟩
 ·have d40:decide (s+1≤40)=false:=decide_eq_false h40;have HR:Hid (b4h s x d=(s+1,false)):=Lib.hid (by unfold b4h;rw[d40];rfl);generalize b4h s x d=T at *;go_enter Try.func138,Try.ntmps138;go_wp2;go_ret;exact⟨by rw[HR.out];rfl,HG.out.trans (b3c _ _ _ _),by rw[HR.out];exact HB.out.set_ 0 _⟩
theorem b6k{w w1 w2:World}{R:Nat}(h:Bel w w1)(hR:w.heap.size≤R)(hg:w1.grownBy w2 (some R)):Bel w w2:=
 Below.grown h hg h.size (fun k hk=>by have:R=k:=Option.some.inj hk;omega)
theorem b5K(l:List PC)(v:Value)(w:World)(h:Sl pcR w v l)(hf:b1P l 1=true)(hc:b0r l≤1000) :
  Calls Try.prog 143 #[v] w fun r w'=>r=.returned (.int .i64 (b0r l))∧Bel w w':=by
 have HOK:=Lib.hid (c1k l 1 0 hf (by decide) (by decide) (by omega));have HWK:=Lib.hid (b6T l 1 0);have HW:=Lib.hid (fun W R (hR:w.heap.size≤R) (hb:Bel w W) (hbk:Blk W R 3 #[.int .i64 0])=>c1K (.pointer (some ⟨R,0,none⟩)) 3 b5D OkM (fun _ _ _ h=>⟨h.2.2.1,h.2.2.2⟩) w W R hR hb (b9X w W R) l 1 0 v W HOK.out h (World.grownBy.refl _ _) hbk);have HK:=Lib.hid (Blk.new w 3 #[.int .i64 0]);obtain⟨A,c,rfl,-⟩:=b0R h;clear h hf;go_enter Try.func143,Try.ntmps143;go_wp2_with fail
 refine(HW.out _ _ (Nat.le_refl _) ((Bel.rfl_ w).al _) HK.out).mono ?_;rintro r w1 ⟨rfl,hg,hb⟩;rw[HWK.out] at hb;have x0:=hb.cell (i:=0) rfl;have HB:=Lib.hid (b6k ((Bel.rfl_ w).al (.cells #[.int .i64 0] 3)) (Nat.le_refl _) hg);clear hg hb;go_wp2;go_ret;exact⟨by simp,HB.out⟩
def b3D(l:List PF)(s:Int):Bool:=l.all (fun f=>b1P f.cmds 1) && decide (s+((l.map fun f=>b0r f.cmds).sum:Nat)≤40)
theorem b9Q{l:List PF}{k:Nat}{x:PF}(hx:l[k]? = some x)(s:Int):b3D (l.drop k) s=(b1P x.cmds 1 && b3D (l.drop (k+1)) (s+b0r x.cmds)):=by
 obtain⟨hl,rfl⟩:=List.getElem?_eq_some_iff.1 hx;rw[List.drop_eq_getElem_cons hl];unfold b3D;rw[List.all_cons,List.map_cons,List.sum_cons,Bool.and_assoc]
 congr 2
 exact decide_eq_decide.2 (by omega)
theorem c0O{l:List PF}{k:Nat}(h:l.length≤k){s:Int}(hs:s≤40):b3D (l.drop k) s=true:=by
 rw[List.drop_eq_nil_of_le h];unfold b3D;simp;omega
theorem b8E{l:List PF}{s:Int}(hs:40<s):b3D l s=false:=by
 unfold b3D;rw[Bool.and_eq_false_iff];exact Or.inr (decide_eq_false (by omega))
theorem c2n(l:List PF)(v:Value)(w:World)(h:Sl pfR w v l):Calls Try.prog 97 #[.agg #[v]] w fun r w'=>r=.returned (.bool (b3D l 0))∧Bel w w':=by
 have HSL:=Lib.hid h;have HW:=Lib.hid (fun(x:PF) s vc W ws R (hR:w.heap.size≤R) (hb:Bel w ws) (hok:b3o b4h OkM x.cmds 1 s) (hsl:Sl pcR w vc x.cmds) (hg:ws.grownBy W (some R)) (hbk:Blk W R 3 #[.int .i64 s])=>c1J (.pointer (some ⟨R,0,none⟩)) 3 b4h OkM (fun _ _ _ h=>⟨h.2.2.1,h.2.2.2⟩) w ws R hR hb (c0N w ws R) x.cmds 1 s vc W hok hsl hg hbk);have HT:Hid (b3D (l.drop 0) 0=b3D l 0):=Lib.hid rfl;generalize b3D l 0=T at *;obtain⟨A,c,rfl,hll⟩:=b0R h;have HK0:=Lib.hid (Blk.new (w.alloc (.cells #[.slice A l.length c] 40)) 3 #[.int .i64 0]);have HB0:=Lib.hid (((Bel.rfl_ w).al (.cells #[.slice A l.length c] 40)).al (.cells #[.int .i64 0] 3));have hRR:(w.alloc (.cells #[.slice A l.length c] 40)).heap.size=w.heap.size+1:=by simp
 rw[hRR] at HK0;clear h hRR;go_enter Try.func97,Try.ntmps97;go_wp2;generalize hWS:(w.alloc (.cells #[.slice A l.length c] 40)).alloc (.cells #[.int .i64 0] 3)=ws at *;go_loopw [10] (fun i wr=>∃(j:Nat) (s:Int),i=.int .i64 j∧j≤l.length∧0≤s∧s≤40∧Hid (b3D (l.drop j) s=T)∧Hid (ws.grownBy wr (some (w.heap.size+1)))∧Hid (Blk wr (w.heap.size+1) 3 #[.int .i64 s])) (fun i _=>l.length-(intOf i).toNat)
 case atStart=>exact⟨0,0,rfl,Nat.zero_le _,by decide,by decide,HT,World.grownBy.refl _ _,HK0⟩
 case round =>
  obtain⟨j,s,rfl,hj,hs0,hs1,HS,HG,HC⟩:=hrel;obtain⟨WO,hWO⟩:∃W,W=wr:=⟨_,rfl⟩;subst hWO;have HB:=Lib.hid (b6k HB0.out (Nat.le_succ _) HG.out);clear HT HK0;by_cases hlt:j<l.length
  rotate_left
  ·have hdd:decide ((j:Int)<l.length)=false:=decide_eq_false (by omega);have HR:Hid (true=T):=Lib.hid (by rw[←HS.out,c0O (by omega) hs1]);go_wp2;go_ret;exact⟨by rw[←HR.out];rfl,HB.out⟩
  have hdd:decide ((j:Int)<l.length)=true:=decide_eq_true (by omega);obtain⟨x,hx⟩:∃x,l[j]? = some x:=⟨_,List.getElem?_eq_getElem hlt⟩;obtain⟨b,o,cs,rfl,hcs,hca⟩:=HSL.out.elem hx;have HT:Hid ((b1P x.cmds 1 && b3D (l.drop (j+1)) (s+b0r x.cmds))=T):=Lib.hid (by rw[←HS.out,b9Q hx]);have HF:=Lib.hid (c0P x.cmds 1 s hs0 hs1 (by decide) (by decide));have i0:(0:Int)≤j:=by omega
  have i1:(j:Int)<l.length:=by omega
  have HCS:Hid (PFR w x cs):=Lib.hid hcs;have HCA:=Lib.hid (hca.keep HB.out);have hRK:=HC.out.lt;clear hcs hca hx HS;go_upto_region 5 with(refine c2S (.tmp 12) (.tmp 5) (.tmp 13) rfl rfl rfl rfl rfl rfl b (o+j*6) (by exact rfl) cs HCA.out HCS.out (by exact rfl) (by exact rfl) ?_);have HX:Hid (ws.grownBy (WO.alloc (.cells cs.toArray 78)) (some (w.heap.size+1))):=Lib.hid (HG.out.trans (((Bel.rfl_ WO).al (.cells cs.toArray 78)).grown _));have HK:=Lib.hid (Blk.new WO 78 cs.toArray);replace HC:=Lib.hid (HC.out.keep ((Bel.rfl_ WO).al (.cells cs.toArray 78)));obtain⟨vz,vc,vr,rfl,-,hsc,-⟩:=HCS.out;generalize hW1:WO.alloc _=W1 at *;clear hW1 HCS HCA;generalize WO.heap.size=K at *;obtain⟨Ac,cc,rfl,hlc⟩:=b0R hsc;have HSC:=Lib.hid hsc;have k2:=HK.out.cell (i:=2) (v:=.slice Ac x.cmds.length cc) rfl;clear hsc HK hRK;generalize x.params=xp at *;generalize x.result.kind=rk at *;generalize x.result.n=rn at *;go_wp2_with fail
  refine(HW.out x s _ _ ws _ (Nat.le_succ _) HB0.out HF.out.2 HSC.out HX.out HC.out).mono ?_;rintro r w3 ⟨rfl,hg,hb⟩;have HX3:=Lib.hid (HX.out.trans hg);have HB3:=Lib.hid (b6k HB0.out (Nat.le_succ _) HX3.out);have HC3:=Lib.hid hb;obtain⟨f1,f2,f3,f4⟩:=HF.out.1;clear hg hb k2;rcases hfs:b0q b4h x.cmds 1 s with⟨s1,b1⟩;rw[hfs] at HC3 f1 f2 f3 f4;dsimp only at HC3 f1 f2 f3 f4;cases b1 with
  | false =>
   have HR:Hid (false=T):=Lib.hid (by
    rw[←HT.out];by_cases hf:b1P x.cmds 1=true
    ·have:¬(s+b0r x.cmds≤40):=fun h=>absurd (f1.2 ⟨hf,h⟩) (by decide);rw[b8E (by omega),Bool.and_false]
    ·rw[Bool.eq_false_iff.2 hf,Bool.false_and])
   clear f1 f2 f3 f4 hfs;go_wp2;go_ret;exact⟨by rw[←HR.out];rfl,HB3.out⟩
  | true =>
   obtain⟨g1,g2⟩:=f1.1 rfl;obtain rfl:=f2 rfl;have HR:Hid (b3D (l.drop (j+1)) (s+b0r x.cmds)=T):=Lib.hid (by rw[←HT.out,g1,Bool.true_and]);clear f1 f2 hfs g1;go_wp2;go_roundw
   case rel=>exact⟨j+1,_,by go_num,by omega,by omega,g2,HR,HX3,HC3⟩
   case measure=>simp[intOf];omega
theorem b6r(e:PE)(val:Value)(w:World)(h:PEV w e val):Calls Try.prog 142 #[val] w fun r w'=>r=.returned (.bool e.none_)∧Bel w w':=by
 obtain⟨v,rfl,hs⟩:=h;obtain⟨A,c,rfl,hl⟩:=b0R hs;have HB:Hid (Bel w (w.alloc (.cells #[.int .i64 e.kind,.int .i64 e.n,.slice A e.args.length c] 47))):=Lib.hid ((Bel.rfl_ w).al _);have HR:Hid (e.none_=(decide (e.kind=0) && decide (e.n=0) && decide (e.args.length=0))):=Lib.hid rfl;clear hs;generalize e.none_=T at *;generalize e.kind=k at *;generalize e.n=n at *;generalize e.args.length=L at *;by_cases h1:k=0
 ·subst h1;by_cases h2:n=0
  ·subst h2;by_cases h3:L=0
   ·subst h3;go_enter Try.func142,Try.ntmps142;go_wp2;go_ret;exact⟨by rw[HR.out];rfl,HB.out⟩
   ·have d3:((L:Int)==0)=false:=by simpa using h3
    have e3:decide (L=0)=false:=decide_eq_false h3;rw[e3] at HR;go_enter Try.func142,Try.ntmps142;go_wp2;go_ret;exact⟨by rw[HR.out];rfl,HB.out⟩
  ·have d2:(n==0)=false:=by simpa using h2
   have e2:decide (n=0)=false:=decide_eq_false h2;rw[e2,Bool.and_false,Bool.false_and] at HR;go_enter Try.func142,Try.ntmps142;go_wp2;go_ret;exact⟨by rw[HR.out];rfl,HB.out⟩
 ·have d1:(k==0)=false:=by simpa using h1
  have e1:decide (k=0)=false:=decide_eq_false h1;rw[e1,Bool.false_and,Bool.false_and] at HR;go_enter Try.func142,Try.ntmps142;go_wp2;go_ret;exact⟨by rw[HR.out];rfl,HB.out⟩
theorem c2p(k:Int)(w:World):Calls Try.prog 154 #[.int .i64 k] w fun r w'=>r=.returned (.tuple #[.bool (decide (k=2)),.bool (decide (k≠3∧k≠4))])∧w=w':=by
 by_cases h3:k=3
 ·subst h3;go_enter Try.func154,Try.ntmps154;go_wp2;go_ret2
  exact⟨rfl,rfl⟩
 by_cases h4:k=4
 ·subst h4;go_enter Try.func154,Try.ntmps154;go_wp2;go_ret2
  exact⟨rfl,rfl⟩
 have d3:(k != 3)=true:=by simpa using h3
 have d4:(k != 4)=true:=by simpa using h4
 have HR:Hid (decide (k≠3∧k≠4)=true):=Lib.hid (decide_eq_true ⟨h3,h4⟩);by_cases h2:k=2
 ·subst h2;go_enter Try.func154,Try.ntmps154;go_wp2;go_ret2
  exact⟨rfl,rfl⟩
 ·have d2:(k==2)=false:=by simpa using h2
  have HR2:Hid (decide (k=2)=false):=Lib.hid (decide_eq_false h2);generalize decide (k≠3∧k≠4)=X at *;generalize decide (k=2)=Y at *;go_enter Try.func154,Try.ntmps154;go_wp2;go_ret2
  exact⟨by rw[HR.out,HR2.out];rfl,rfl⟩
theorem b8g{α:Type}{p:α→Bool}{l:List α}{k:Nat}{x:α}(hx:l[k]? = some x):(l.drop k).any p=(p x || (l.drop (k+1)).any p):=by
 obtain⟨hl,rfl⟩:=List.getElem?_eq_some_iff.1 hx;rw[List.drop_eq_getElem_cons hl,List.any_cons]
def c3g(F:Nat)(p:Int→Bool):Prop:=∀(x:Int) (W:World),Calls Try.prog F #[.int .i64 x] W fun r w'=>r=.returned (.bool (p x))∧Bel W w'
theorem c1e(p:Int→Bool)(l:List Int)(v:Value)(w:World)(h:Sl b2l w v l)(IH:c3g 151 p) :
  Calls Try.prog 108 #[v,.func (.func 151) #[] #[]] w fun r w'=>∃k:Int,r=.returned (.int .i64 k)∧decide (0≤k)=l.any p∧Bel w w':=by
 have HSL:=Lib.hid h;have HI:=Lib.hid IH;have HT:Hid ((l.drop 0).any p=l.any p):=Lib.hid rfl;generalize l.any p=T at *;obtain⟨A,c,rfl,hll⟩:=b0R h;have HRF:=Lib.hid (Bel.rfl_ w);clear IH h;go_enter Try.func108,Try.ntmps108;go_wp2;go_loopw [8] (fun i wr=>∃j:Nat,i=.int .i64 j∧j≤l.length∧Hid ((l.drop j).any p=T)∧Hid (Bel w wr)) (fun i _=>l.length-(intOf i).toNat)
 case atStart=>exact⟨0,rfl,Nat.zero_le _,HT,HRF⟩
 case round =>
  obtain⟨j,rfl,hj,HS,HB⟩:=hrel;clear HT HRF;by_cases hlt:j<l.length
  rotate_left
  ·have hdd:decide ((j:Int)<l.length)=false:=decide_eq_false (by omega);have HR:Hid (false=T):=Lib.hid (by rw[←HS.out,List.drop_eq_nil_of_le (by omega)];rfl);go_wp2;go_ret;exact⟨-1,rfl,by rw[←HR.out];rfl,HB.out⟩
  have hdd:decide ((j:Int)<l.length)=true:=decide_eq_true (by omega);obtain⟨x,hx⟩:∃x,l[j]? = some x:=⟨_,List.getElem?_eq_getElem hlt⟩;obtain⟨b,o,rfl,hA⟩:=(HSL.out.keep HB.out).lies (by omega);have HCA:=Lib.hid (b2l.cell hA hx);have HD:Hid ((p x || (l.drop (j+1)).any p)=T):=Lib.hid (by rw[←b8g hx];exact HS.out);have i0:(0:Int)≤j:=by omega
  have i1:(j:Int)<l.length:=by omega
  clear hx HS hA;go_upto_region 4 with fail;refine b1K ?_;try dsimp only[List.append]
  refine b0M (some 11) (.func (.func 151) #[] #[]) (by kernel_rfl) ?_;refine b0M (some 12) (.slice (some ⟨b,o,none⟩) l.length c) (by kernel_rfl) ?_;refine b0M (some 13) (.int .i64 j) (by kernel_rfl) ?_;refine b0M (some 14) (.pointer (some ⟨b,o+j,none⟩)) (by go_simp) ?_;refine b0M (some 15) (.int .i64 x) (b0I HCA.out) ?_;refine b0s (some 16) 151 #[.int .i64 x] (HI.out x _) ?_;rintro r W3 ⟨rfl,hb⟩;replace HB:=Lib.hid (HB.out.tr hb);clear hb;refine⟨_,rfl,?_⟩;generalize p x=sm at *;refine b0o ?_;try simp only[Act.put,List.setIfInBounds_toArray,List.set_cons_zero,List.set_cons_succ]
  cases sm with
  | false =>
   have HD2:Hid ((l.drop (j+1)).any p=T):=Lib.hid (by rw[←HD.out,Bool.false_or]);go_wp2;go_roundw
   case rel=>exact⟨j+1,by go_num,by omega,HD2,HB⟩
   case measure=>simp[intOf];omega
  | true =>
   have HD2:Hid (true=T):=Lib.hid (by rw[←HD.out,Bool.true_or]);go_wp2;go_ret;exact⟨j,rfl,by rw[←HD2.out];exact decide_eq_true i0,HB.out⟩
theorem b8C(p:Int→Bool)(l:List Int)(v:Value)(w:World)(h:Sl b2l w v l)(IH:c3g 151 p) :
  Calls Try.prog 59 #[v,.func (.func 151) #[] #[]] w fun r w'=>r=.returned (.bool (l.any p))∧Bel w w':=by
 have HC:=Lib.hid (c1e p l v w h IH);obtain⟨A,c,rfl,-⟩:=h;generalize l.any p=T at *;clear IH;go_enter Try.func59,Try.ntmps59;go_wp2_with fail
 refine HC.out.mono ?_;rintro r w1 ⟨k,rfl,hk,hb⟩;have hk2:decide (0≤k)=T:=hk;have HB:=Lib.hid hb;clear hb HC hk;cases T with
 | true =>
  go_wp2;go_ret;exact⟨rfl,HB.out⟩
 | false =>
  go_wp2;go_ret;exact⟨rfl,HB.out⟩
theorem c1f(p:Int→Bool)(l:List Int)(v:Value)(w:World)(h:Sl b2l w v l)(IH:c3g 152 p) :
  Calls Try.prog 108 #[v,.func (.func 152) #[] #[]] w fun r w'=>∃k:Int,r=.returned (.int .i64 k)∧decide (0≤k)=l.any p∧Bel w w':=by
 have HSL:=Lib.hid h;have HI:=Lib.hid IH;have HT:Hid ((l.drop 0).any p=l.any p):=Lib.hid rfl;generalize l.any p=T at *;obtain⟨A,c,rfl,hll⟩:=b0R h;have HRF:=Lib.hid (Bel.rfl_ w);clear IH h;go_enter Try.func108,Try.ntmps108;go_wp2;go_loopw [8] (fun i wr=>∃j:Nat,i=.int .i64 j∧j≤l.length∧Hid ((l.drop j).any p=T)∧Hid (Bel w wr)) (fun i _=>l.length-(intOf i).toNat)
 case atStart=>exact⟨0,rfl,Nat.zero_le _,HT,HRF⟩
 case round =>
  obtain⟨j,rfl,hj,HS,HB⟩:=hrel;clear HT HRF;by_cases hlt:j<l.length
  rotate_left
  ·have hdd:decide ((j:Int)<l.length)=false:=decide_eq_false (by omega);have HR:Hid (false=T):=Lib.hid (by rw[←HS.out,List.drop_eq_nil_of_le (by omega)];rfl);go_wp2;go_ret;exact⟨-1,rfl,by rw[←HR.out];rfl,HB.out⟩
  have hdd:decide ((j:Int)<l.length)=true:=decide_eq_true (by omega);obtain⟨x,hx⟩:∃x,l[j]? = some x:=⟨_,List.getElem?_eq_getElem hlt⟩;obtain⟨b,o,rfl,hA⟩:=(HSL.out.keep HB.out).lies (by omega);have HCA:=Lib.hid (b2l.cell hA hx);have HD:Hid ((p x || (l.drop (j+1)).any p)=T):=Lib.hid (by rw[←b8g hx];exact HS.out);have i0:(0:Int)≤j:=by omega
  have i1:(j:Int)<l.length:=by omega
  clear hx HS hA;go_upto_region 4 with fail;refine b1K ?_;try dsimp only[List.append]
  refine b0M (some 11) (.func (.func 152) #[] #[]) (by kernel_rfl) ?_;refine b0M (some 12) (.slice (some ⟨b,o,none⟩) l.length c) (by kernel_rfl) ?_;refine b0M (some 13) (.int .i64 j) (by kernel_rfl) ?_;refine b0M (some 14) (.pointer (some ⟨b,o+j,none⟩)) (by go_simp) ?_;refine b0M (some 15) (.int .i64 x) (b0I HCA.out) ?_;refine b0s (some 16) 152 #[.int .i64 x] (HI.out x _) ?_;rintro r W3 ⟨rfl,hb⟩;replace HB:=Lib.hid (HB.out.tr hb);clear hb;refine⟨_,rfl,?_⟩;generalize p x=sm at *;refine b0o ?_;try simp only[Act.put,List.setIfInBounds_toArray,List.set_cons_zero,List.set_cons_succ]
  cases sm with
  | false =>
   have HD2:Hid ((l.drop (j+1)).any p=T):=Lib.hid (by rw[←HD.out,Bool.false_or]);go_wp2;go_roundw
   case rel=>exact⟨j+1,by go_num,by omega,HD2,HB⟩
   case measure=>simp[intOf];omega
  | true =>
   have HD2:Hid (true=T):=Lib.hid (by rw[←HD.out,Bool.true_or]);go_wp2;go_ret;exact⟨j,rfl,by rw[←HD2.out];exact decide_eq_true i0,HB.out⟩
theorem b8D(p:Int→Bool)(l:List Int)(v:Value)(w:World)(h:Sl b2l w v l)(IH:c3g 152 p) :
  Calls Try.prog 59 #[v,.func (.func 152) #[] #[]] w fun r w'=>r=.returned (.bool (l.any p))∧Bel w w':=by
 have HC:=Lib.hid (c1f p l v w h IH);obtain⟨A,c,rfl,-⟩:=h;generalize l.any p=T at *;clear IH;go_enter Try.func59,Try.ntmps59;go_wp2_with fail
 refine HC.out.mono ?_;rintro r w1 ⟨k,rfl,hk,hb⟩;have hk2:decide (0≤k)=T:=hk;have HB:=Lib.hid hb;clear hb HC hk;cases T with
 | true =>
  go_wp2;go_ret;exact⟨rfl,HB.out⟩
 | false =>
  go_wp2;go_ret;exact⟨rfl,HB.out⟩
theorem b9U:c3g 151 fun n=>!decide (0≤n∧n≤8):=by
 intro n W;dsimp only;by_cases h0:n<0
 ·have d0:decide (n<0)=true:=decide_eq_true h0;have HR:Hid (decide (0≤n∧n≤8)=false):=Lib.hid (decide_eq_false (by omega));generalize decide (0≤n∧n≤8)=T at *;go_enter Try.func151,Try.ntmps151;go_wp2;go_ret;exact⟨by rw[HR.out];rfl,Bel.rfl_ _⟩
 have d0:decide (n<0)=false:=decide_eq_false h0;by_cases h8:n > 8
 ·have d8:decide (n > 8)=true:=decide_eq_true h8;have HR:Hid (decide (0≤n∧n≤8)=false):=Lib.hid (decide_eq_false (by omega));generalize decide (0≤n∧n≤8)=T at *;go_enter Try.func151,Try.ntmps151;go_wp2;go_ret;exact⟨by rw[HR.out];rfl,Bel.rfl_ _⟩
 ·have d8:decide (n > 8)=false:=decide_eq_false h8;have HR:Hid (decide (0≤n∧n≤8)=true):=Lib.hid (decide_eq_true (by omega));generalize decide (0≤n∧n≤8)=T at *;go_enter Try.func151,Try.ntmps151;go_wp2;go_ret;exact⟨by rw[HR.out];rfl,Bel.rfl_ _⟩
theorem b9V:c3g 152 fun n=>!decide (n=0):=by
 intro n W;dsimp only;by_cases h0:n=0
 ·subst h0;go_enter Try.func152,Try.ntmps152;go_wp2;go_ret;exact⟨rfl,Bel.rfl_ _⟩
 ·have d0:(n != 0)=true:=by simpa using h0
  have HR:Hid (decide (n=0)=false):=Lib.hid (decide_eq_false h0);generalize decide (n=0)=T at *;go_enter Try.func152,Try.ntmps152;go_wp2;go_ret;exact⟨by rw[HR.out];rfl,Bel.rfl_ _⟩
def b5d(main:Bool)(f:PF):Int:=
 if f.params<0∨(f.sizes.length:Int)<f.params then 3
 else if 3<f.params∨6<(f.sizes.length:Int)-f.params then 2
 else if f.sizes.all (fun n=>decide (0≤n∧n≤8))=false then 3
 else if(f.sizes.take f.params.toNat).all (fun n=>decide (n=0))=false∨(main=true∧0<f.params) then 1 else 0
theorem b9z{α:Type}(p:α→Bool)(l:List α):l.any (fun x=>!p x)=!l.all p:=by
 induction l with
 | nil=>rfl
 | cons x xs ih=>rw[List.any_cons,List.all_cons,ih,Bool.not_and]
def c2N(w0 w:World)(ps:List PF)(f:PF)(calls:Int)(g:Nat):Prop:=∃vp cs,Blk w g 155 ([vp]++cs++[Value.int .i64 calls]).toArray∧Sl pfR w0 vp ps∧PFR w0 f cs
theorem c2N.keep{w0 w w':World}{ps:List PF}{f:PF}{calls:Int}{g:Nat}(h:c2N w0 w ps f calls g)(hb:Bel w w'):c2N w0 w' ps f calls g:=by
 obtain⟨vp,cs,h1,h2,h3⟩:=h;exact⟨vp,cs,h1.keep hb,h2,h3⟩
theorem c2N.cells{w0 w:World}{ps:List PF}{f:PF}{calls:Int}{g:Nat}(h:c2N w0 w ps f calls g):∃vp vz vc vr,Blk w g 155 #[vp,.int .i64 f.params,vz,vc,.int .i64 f.result.kind,.int .i64 f.result.n,vr,.int .i64 calls]∧Sl pfR w0 vp ps∧Sl b2l w0 vz f.sizes∧Sl pcR w0 vc f.cmds∧Sl peR w0 vr f.result.args:=by
 obtain⟨vp,cs,h1,h2,vz,vc,vr,rfl,h3,h4,h5⟩:=h;exact⟨vp,vz,vc,vr,h1,h2,h3,h4,h5⟩
theorem c1c(w0 w:World)(ps:List PF)(f:PF)(calls:Int)(g:Nat)(main:Bool)(h:c2N w0 w ps f calls g)(hb0:Bel w0 w) :
  Calls Try.prog 139 #[.pointer (some ⟨g,0,none⟩),.bool main] w fun r w'=>r=.returned (.int .i64 (b5d main f))∧Bel w w':=by
 obtain⟨vp,vz,vc,vr,hbk,-,hz,hc,hr⟩:=h.cells;have HZ:=Lib.hid hz;obtain⟨Az,cz,rfl,hzc,hzm,-⟩:=id hz;have hlz:f.sizes.length≤9223372036854775807:=by have:=hzm.1;simp only[maxLen] at this;omega
 obtain⟨Ac,cc,rfl,hlc⟩:=b0R hc;obtain⟨Ar,cr,rfl,hlr⟩:=b0R hr;have HC1:=Lib.hid (fun W (hb:Bel w0 W)=>b8C _ f.sizes _ W (hz.keep hb) b9U);have HC2:=Lib.hid (fun W v (h:Sl b2l W v (f.sizes.take f.params.toNat))=>b8D _ (f.sizes.take f.params.toNat) v W h b9V);rw[b9z] at HC1;simp only[b9z] at HC2;have HP:Hid (b5d main f=if f.params<0∨(f.sizes.length:Int)<f.params then 3 else if 3<f.params∨6<(f.sizes.length:Int)-f.params then 2 else if f.sizes.all (fun n=>decide (0≤n∧n≤8))=false then 3 else if(f.sizes.take f.params.toNat).all (fun n=>decide (n=0))=false∨(main=true∧0<f.params) then 1 else 0):=Lib.hid rfl
 have HL:Hid (∀k:Nat,f.params=k→k≤f.sizes.length→∀W,Bel w0 W→Sl b2l W (.slice Az k cz) (f.sizes.take k)):=Lib.hid fun k hk hkl W hb=>by
  obtain⟨A',c',hv,h1,h2,h3⟩:=hz.keep hb;injection hv with e1 _ e2;subst e1;subst e2;have:=Sl.cut (r:=b2l) (i:=0) (j:=k) (A':=Az) h1 h2 h3 hkl (by by_cases h0:cz=0;exact(if_pos h0).symm;rw[if_neg h0];cases Az with | none=>rfl | some a=>simp[Addr.add]) rfl
  simpa using this
 have HB:=Lib.hid hb0;have HBK:=Lib.hid hbk;clear h hbk hz hc hr hb0;generalize b5d main f=T at *;generalize hz1:f.sizes.all (fun n=>decide (0≤n∧n≤8))=Z1 at *;generalize hz2:(f.sizes.take f.params.toNat).all (fun n=>decide (n=0))=Z2 at *;clear hz1 hz2;generalize f.sizes.length=L at *;generalize f.params=P at *;generalize f.result.kind=rk at *;generalize f.result.n=rn at *;have c1:=HBK.out.cell (i:=1) rfl;have c2:=HBK.out.cell (i:=2) rfl;have c3:=HBK.out.cell (i:=3) rfl;have c4:=HBK.out.cell (i:=4) rfl;have c5:=HBK.out.cell (i:=5) rfl;have c6:=HBK.out.cell (i:=6) rfl;go_enter Try.func139,Try.ntmps139;go_upto_region 2 with fail;have HX:Hid (Bel w (w.alloc (.cells #[.int .i64 P,.slice Az L cz,.slice Ac f.cmds.length cc,.int .i64 rk,.int .i64 rn,.slice Ar f.result.args.length cr] 78))):=Lib.hid ((Bel.rfl_ w).al _);have HK:=Lib.hid (Blk.new w 78 #[.int .i64 P,.slice Az L cz,.slice Ac f.cmds.length cc,.int .i64 rk,.int .i64 rn,.slice Ar f.result.args.length cr]);clear c1 c2 c3 c4 c5 c6;generalize w.alloc _=W1 at *;generalize w.heap.size=K at *;have k0:=HK.out.cell (i:=0) (v:=.int .i64 P) rfl;have k1:=HK.out.cell (i:=1) (v:=.slice Az L cz) rfl;by_cases h1:P<0
 ·have HR:Hid (T=3):=Lib.hid (by rw[HP.out,if_pos (Or.inl h1)]);have d1:decide (P<0)=true:=decide_eq_true h1;clear HP HC1 HC2 HL h1;go_wp2;go_ret;exact⟨by rw[HR.out];rfl,HX.out⟩
 have d1:decide (P<0)=false:=decide_eq_false h1;by_cases h2:P > (L:Int)
 ·have HR:Hid (T=3):=Lib.hid (by rw[HP.out,if_pos (Or.inr h2)]);have d2:decide (P > (L:Int))=true:=decide_eq_true h2;clear HP HC1 HC2 HL h1 h2;go_wp2;go_ret;exact⟨by rw[HR.out];rfl,HX.out⟩
 have d2:decide (P > (L:Int))=false:=decide_eq_false h2;have hw:IntKind.i64.wrap ((L:Int)-P)=(L:Int)-P:=by rw[IntKind.wrap_i64];omega
 by_cases h3:P > 3
 ·have HR:Hid (T=2):=Lib.hid (by rw[HP.out,if_neg (by omega),if_pos (Or.inl h3)]);have d3:decide (P > 3)=true:=decide_eq_true h3;clear HP HC1 HC2 HL h1 h2 h3;go_wp2;go_ret;exact⟨by rw[HR.out];rfl,HX.out⟩
 have d3:decide (P > 3)=false:=decide_eq_false h3;by_cases h4:(L:Int)-P > 6
 ·have HR:Hid (T=2):=Lib.hid (by rw[HP.out,if_neg (by omega),if_pos (Or.inr h4)]);have d4:decide ((L:Int)-P > 6)=true:=decide_eq_true h4;clear HP HC1 HC2 HL h1 h2 h3 h4;go_wp2;go_ret;exact⟨by rw[HR.out];rfl,HX.out⟩
 have d4:decide ((L:Int)-P > 6)=false:=decide_eq_false h4;replace HP:Hid (T=if Z1=false then 3 else if Z2=false∨(main=true∧0<P) then 1 else 0):=Lib.hid (by rw[HP.out,if_neg (by omega),if_neg (by omega)]);obtain⟨k,hk⟩:∃k:Nat,P=k:=⟨P.toNat,by omega⟩;subst hk;have hkL:k≤L:=by omega
 have HSL:=Lib.hid (HL.out k rfl hkL);rw[Int.toNat_natCast] at HC2;clear h1 h2 h3 h4 HL;go_wp2_with fail
 refine(HC1.out _ (HB.out.tr HX.out)).mono ?_;rintro r w2 ⟨rfl,hb⟩;replace HK:=Lib.hid (HK.out.keep hb);replace HX:=Lib.hid (HX.out.tr hb);have k0:=HK.out.cell (i:=0) (v:=.int .i64 k) rfl;have k1:=HK.out.cell (i:=1) (v:=.slice Az L cz) rfl;have hkc:k≤cz:=by omega
 have hkc2:(k:Int)≤cz:=by omega
 clear hb HC1;cases Z1 with
 | false =>
  have HR:Hid (T=3):=Lib.hid (by rw[HP.out,if_pos rfl]);clear HP;simp only[Bool.not_false];go_wp2;go_ret;exact⟨by rw[HR.out];rfl,HX.out⟩
 | true =>
  replace HP:Hid (T=if Z2=false∨(main=true∧0<(k:Int)) then 1 else 0):=Lib.hid (by rw[HP.out,if_neg (by decide)]);simp only[Bool.not_true];go_wp2_with fail
  refine(HC2.out _ _ (HSL.out _ (HB.out.tr HX.out))).mono ?_;rintro r w3 ⟨rfl,hb⟩;replace HK:=Lib.hid (HK.out.keep hb);replace HX:=Lib.hid (HX.out.tr hb);have k0:=HK.out.cell (i:=0) (v:=.int .i64 k) rfl;clear hb HC2 HSL;cases Z2 with
  | false =>
   have HR:Hid (T=1):=Lib.hid (by rw[HP.out,if_pos (Or.inl rfl)]);clear HP;simp only[Bool.not_false];go_wp2;go_ret;exact⟨by rw[HR.out];rfl,HX.out⟩
  | true =>
   simp only[Bool.not_true];cases main with
   | false =>
    have HR:Hid (T=0):=Lib.hid (by rw[HP.out,if_neg (by simp)]);clear HP;go_wp2;go_ret;exact⟨by rw[HR.out];rfl,HX.out⟩
   | true =>
    by_cases hk0:(k:Int) > 0
    ·have HR:Hid (T=1):=Lib.hid (by rw[HP.out,if_pos (Or.inr ⟨rfl,hk0⟩)]);have dk:decide ((k:Int) > 0)=true:=decide_eq_true hk0;clear HP;go_wp2;go_ret;exact⟨by rw[HR.out];rfl,HX.out⟩
    ·have HR:Hid (T=0):=Lib.hid (by rw[HP.out,if_neg (by simp;omega)]);have dk:decide ((k:Int) > 0)=false:=decide_eq_false hk0;clear HP;go_wp2;go_ret;exact⟨by rw[HR.out];rfl,HX.out⟩
end Go.Proofs.Ytgkpplbomciehaa
