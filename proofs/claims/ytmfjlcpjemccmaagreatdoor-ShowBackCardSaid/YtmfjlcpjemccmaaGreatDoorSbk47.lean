/- The program's cmds and block: walked. Each lemma states its own conditions. -/
import Derived.Test.YtmfjlcpjemccmaaGreatDoorSbk46
namespace Go.Proofs.YtmfjlcpjemccmaaGreatDoor
set_option maxRecDepth 20000
set_option maxHeartbeats 4000000
open Go.RowKit
section
variable {P:Program}{ops:Array Oper}{Q:Exit→Act→World→Prop}{rest:List Oper}{o:Oper}{a:Act}{w:World}
theorem c1T(d:Option Tmp)(hd:o.dst=d)(hw:Region.wanted o (yielded ops a.tmps)=true)(f:FuncId)(args:Array Value)(hrun:(execOp a.eval o).run P w=.ok (.enter f args) w){R:Ending→World→Prop}(hc:Calls P f args w R)
  (h:∀e w',R e w'→(∃v,e=.returned v∧WL P ops Q rest (a.put d v) w')∨∃ps,e=.panicked ps∧Q (.panic ps) a w'):WL P ops Q (o::rest) a w:=
 ⟨wpList_step fun K hK=>by
  subst hd;rw[if_pos hw];unfold Oper.wp;rw[hrun,Oper.upon_enter];refine hc.mono fun e w' hh=>?_;rcases h e w' hh with⟨v,rfl,hW⟩ | ⟨ps,rfl,hp⟩
  ·exact hK _ _ hW.out
  ·exact hp⟩
theorem b9p(d:Option Tmp)(hd:o.dst=d)(hg:o.guard=none)(t e:TypeId)(x:Operand)(ho:o.op=.buildSlice t 1 #[(0,x)])(cs:List Value)(hx:a.eval x=.agg cs.toArray){size bytes:Nat}(E:Elem P t e size bytes)(hl:cs.length=size)(hs:size≤1000)
  (h:WL P ops Q rest (a.put d (.slice (some ⟨w.heap.size,0,none⟩) 1 1)) (w.alloc (.cells cs.toArray e))):WL P ops Q (o::rest) a w:=by
 subst hd;exact⟨b3L hg t e x ho cs hx E hl hs h.out⟩
theorem b8N(d:Option Tmp)(hd:o.dst=d)(W:World)(hgd:o.guard=none)(s x:Operand)(t:TypeId)
  (ho:o.op=.call { callee:=.builtin .append,args:=#[s,x],argTypes:=#[t,t] }) (base:Nat) {e:TypeId} {size bytes:Nat} (E:Elem P t e size bytes)
  (v:Value) (n:Nat) (xs:List Value) (hs:a.eval s=v) (hown:W.ownsRow base e size v n xs) (cs:List Value) (hx:a.eval x=.slice (some ⟨W.heap.size,0,none⟩) 1 1)
  (hl:cs.length=size) (h1:∀u∈cs,u.oneCell'=true) (h63:n+1≤maxLen) (hbytes:(n+1)*bytes≤140737488355328) (hbase:base≤W.heap.size)
  (h:∀g cap w',w'.ownsRow base e size (.slice (some ⟨g,0,none⟩) (n+1) cap) (n+1) (xs++cs)→W.grownBy w' v.ownBlock→(v.ownBlock=some g∨W.heap.size≤g) →
   WL P ops Q rest (a.put d (.slice (some ⟨g,0,none⟩) (n+1) cap)) w'):WL P ops Q (o::rest) a (W.alloc (.cells cs.toArray e)):=by
 subst hd;exact⟨b2v W hgd s x t ho base E v n xs hs hown cs hx hl h1 h63 hbytes hbase fun g cap w' h2 h3 h4=>(h g cap w' h2 h3 h4).out⟩
end
theorem b6Q.pushedP{α:Type}{r:Rep α}(hm:b9G r){w W W2:World}{e:TypeId}{v v':Value}{xs:List α}{x:α}{cells cs:List Value}{C g:Nat}{lv:Value}{E p:Nat}
  (h1:W.ownsRow w.heap.size e r.size v xs.length cells) (h2:∀i x,xs[i]? = some x→r.R (mask (c2m w.heap.size v) W) ((cells.drop (i*r.size)).take r.size) x) (h3:W2.ownsRow w.heap.size e r.size v' (xs.length+1) (cells++cs))
  (hg:W.grownBy W2 v.ownBlock) (hv:v.ownBlock=v'.ownBlock∨∀k,v'.ownBlock=some k→W.heap.size≤k) (hx:r.R (low C W) cs x) (hC:w.heap.size≤C) (hCv:∀k,v.ownBlock=some k→k<C)
  (hgw:w.grownBy W (some g)) (hgl:g<w.heap.size) (hr:Ps W g lv p E):b6Q r e w.heap.size W2 v' (xs++[x])∧w.grownBy W2 (some g)∧Ps W2 g lv p E:=by
 have ho:∀k,v.ownBlock=some k→w.heap.size≤k:=fun k hk=>(h1.lt k hk).1
 exact⟨.push hm h1 h2 h3 hg hv hx hC hCv,b8j hgw hg ho,Blk.grown hr hg (fun e=>by
  have:=ho g e.symm;omega)⟩
theorem b3G.mk{w:World}{g:Nat}{lv:Value}{l:List Tok}{E p:Nat}{x:List TC×RS}{w':World}{A:Option Addr}{c:Nat}{xs:List TC}(hx:x=(xs,(p,false)))(hg:w.grownBy w' (some g))(hr:Ps w' g lv p E)(h:Sl tcR (low w.heap.size w') (.slice A xs.length c) xs):b3G w g lv l E x (.returned (.slice A xs.length c)) w':=by
 subst hx;exact .mkGood rfl hg hr ⟨A,c,rfl,h⟩
theorem c1V{l:List Tok}{E n:Nat}(k:Nat):(b2y l E n (k,true)).2=(k,true):=by
 unfold b2y;rw[b0a,b2J (Or.inl rfl)];exact b0a (l:=l) (s:=b0v) (p:=k)
theorem c2D(l:List Tok)(lv:Value)(E g n:Nat)(s:ByteArray)(hs0:s≠emp)(p0:Nat)(w0 w:World)(hl:Sl b1V w0 lv l)(hn:l.length≤6000)(hok:∀t∈l,b0r t)(hm:∀t∈l,t.text.size≤maxLen)(hg:w0.heap.size≤g)(hp:p0≤l.length)(h0:Bel w0 w)(h:Ps w g lv p0 E)(hf:l.length-p0<n)(hn2:n≤6001)
  (hblk:∀(m:Nat) W k,m<n→k≤l.length→l.length-k<m→Bel w0 W→Ps W g lv k E→Calls Tryz.prog 218 #[.pointer (some ⟨g,0,none⟩)] W fun r w'=>b3G W g lv l E (b2y l E m (k,false)) r w') :
  Calls Tryz.prog 143 #[.pointer (some ⟨g,0,none⟩),.string s] w fun r w'=>b3G w g lv l E (b1K l E n s (p0,false)) r w':=by
 have HSE:=Hi_ (fun W (k:Nat) (b:Bool) (ht:decide (tx l k false=s)=b) (hb:Bel w0 W) (h:Ps W g lv k E)=>c0S l lv k E g s hs0 W (hl.keep hb) hn h ht);have HCM:=Hi_ (fun(m p:Nat) W (hmn:m<n) (hq:p≤l.length) (hb:Bel w0 W) (h:Ps W g lv p E) (hlm:l.length-p<m+1)=>c5V l lv E g p w0 W hl hn hok hm hg hq hb h m hlm (b2y l E m) (b6X (E:=E) hok m) (fun k=>c1V k) (fun W' k h1 h2 h3 h4=>hblk m W' k hmn h1 h2 h3 h4));have hgl:=h.lt;have HR0:=Hi_ h;obtain⟨y,hy⟩:∃y,y=b1K l E n s (p0,false):=⟨_,rfl⟩;have HY0:Hid ((([]:List TC)++(b1K l E n s (p0,false)).1,(b1K l E n s (p0,false)).2)=y):=Hi_ hy.symm;rw[←hy];clear hy h hblk;go_enter Tryz.func143,Tryz.ntmps143;go_wp2;go_loopw [5] (fun v wr=>∃(xs:List TC) (p m:Nat),Hid (b6Q tcR 53 w.heap.size wr v xs)∧Hid (Ps wr g lv p E)∧Hid (w.grownBy wr (some g))∧Hid ((xs++(b1K l E m s (p,false)).1,(b1K l E m s (p,false)).2)=y)∧l.length-p<m∧p≤l.length∧xs.length+m=n) (fun v _=>n-b7F v)
 case atStart=>exact⟨[],p0,n,b6Q.nil _ _ _ _,HR0,World.grownBy.refl _ _,HY0,hf,hp,by simp⟩
 case round =>
  obtain⟨xs,p,m,HO,HR,HG,HY,hlt,hq,hxm⟩:=hrel;clear HR0 HY0 hf hp;have HM:=Hi_ HO.out.len;obtain⟨va,vc,rfl⟩:=HO.out.slice;by_cases hs:tx l p false=s
  ·have HT:=Hi_ (decide_eq_true hs);have HE:=HY.out;rw[b2J (q:=(p,false)) (Or.inr hs),List.append_nil] at HE;clear hs;go_wp2_with fail
   refine(HSE.out _ p true HT.out (b0U h0 hg HG.out) HR.out).mono ?_;rintro r w1 ⟨rfl,hb1⟩;have HB:=Hi_ (hb1.grown (some g));replace HR:=Hi_ (HR.out.keep hb1);replace HO:=Hi_ (HO.out.keep b0h hb1);clear hb1;go_wp2;go_ret;exact .mk HE.symm (HG.out.trans HB.out) HR.out (HO.out.sl b0h)
  ·have HT:=Hi_ (decide_eq_false hs);obtain⟨m,rfl⟩:∃m',m=m'+1:=⟨m-1,by omega⟩;have HGO:=Hi_ (b6Z (E:=E) (n:=m) hs);have HGE:=Hi_ (c3C (E:=E) hok (b6X (E:=E) hok m) p);clear hs;go_wp2_with fail
   refine(HSE.out _ p false HT.out (b0U h0 hg HG.out) HR.out).mono ?_;rintro r w1 ⟨rfl,hb1⟩;have HB:=Hi_ (hb1.grown (some g));have HWW:Hid (wr.heap.size≤w1.heap.size):=Hi_ hb1.size
   have HOLT:Hid (∀k,(Value.slice va xs.length vc).ownBlock=some k→k<wr.heap.size):=Hi_ fun k hk=>by
    obtain⟨_,ho,-⟩:=HO.out;exact(ho.lt k hk).2
   replace HR:=Hi_ (HR.out.keep hb1);clear hb1;go_upto_region 3 with fail;refine b0E ?_;refine b0P (some 11) (.pointer (some ⟨g,0,none⟩)) ?_;refine c1T (some 12) rfl (by kernel_rfl) 187 #[.pointer (some ⟨g,0,none⟩)] (by kernel_rfl) (HCM.out m p _ (by omega) hq (b0U h0 hg (HG.out.trans HB.out)) HR.out (by omega)) ?_;rintro r w2 hres;generalize b3O l E (b2y l E m) (p,false)=x2 at *;obtain⟨x,q2,f2⟩:=x2;dsimp only at *;cases f2 with
   | true =>
    obtain⟨hgN,rfl⟩:=PsR.bad hres rfl;have HG2:=Hi_ (HG.out.trans (HB.out.trans hgN));refine Or.inr ⟨_,rfl,?_⟩;exact⟨rfl,.mkBad (by rw[←HY.out,HGO.out];dsimp only;rw[b2J (Or.inl rfl)]) HG2.out⟩
   | false =>
   obtain⟨hgN,hrN,cs,rfl,hcs⟩:=PsR.good hres rfl;have HCZ:Hid (w1.heap.size≤w2.heap.size):=Hi_ hgN.size;replace HB:=Hi_ (HB.out.trans hgN);have HR:=Hi_ hrN;clear hgN hrN hres;refine Or.inl ⟨_,rfl,?_⟩;have hcl:cs.length=17:=tcR.len hcs;have HOC:Hid (∀u∈cs,u.oneCell'=true):=Hi_ (b4d hcs);have HYN:Hid ((xs++[x]++(b1K l E m s (q2,false)).1,(b1K l E m s (q2,false)).2)=y):=Hi_ (by rw[←HY.out,HGO.out,List.append_assoc,List.singleton_append]);refine b2X (some 6) rfl 53 rfl rfl b8g (fun z hz=>?_);refine b2Y none rfl 53 (.tmp 6) (.tmp 12) rfl rfl b8g w2.heap.size cs (by kernel_rfl) (by kernel_rfl) (Blk.new _ _ _) hz hcl HOC.out ?_;rw[World.setRow_alloc_new];have hba:=(Bel.rfl_ w2).al (.cells cs.toArray 53);have hMB:=Blk.new w2 53 cs.toArray;have HCS:Hid (tcR.R (low w1.heap.size (w2.alloc (.cells cs.toArray 53))) cs x):=Hi_ (tcR.keep (b0S hba) hcs);replace HB:=Hi_ (HB.out.trans (hba.grown (some g)));replace HR:=Hi_ (HR.out.keep hba);replace HCZ:=Hi_ (Nat.le_trans HCZ.out hba.size);clear hba hcs;generalize w2.alloc (.cells cs.toArray 53)=W2 at *;generalize w2.heap.size=M at *;refine b0C ?_;try simp only[Act.put,lA,lB,lC]
   have HOW:=Hi_ (HO.out.at_ b0h HB.out fun k hk=>by cases hk;exact hgl);have hwr:=HG.out.size;have hbase:w.heap.size≤W2.heap.size:=Nat.le_trans hwr HB.out.size;have hw1:w.heap.size≤w1.heap.size:=Nat.le_trans hwr HWW.out;obtain⟨cells,ho1,ho2⟩:=HOW.out;have HO1:=Hi_ ho1;have HO2:=Hi_ ho2;have hxs:xs.length≤6000:=by omega
   have hgt:p<q2:=by
    rcases HGE.out.2 with h | h
    ·cases h
    ·exact h
   have hq2:=HGE.out.1.2.1 hq;have HCC:=Hi_ (b3W hMB);clear ho1 ho2 HOW HO HY HGO hMB HGE;go_upto_region 4 with fail;refine b0E ?_;refine b0P (some 13) (.slice va xs.length vc) ?_;refine b0R (some 14) _ (b0B 53 _ rfl b8g M 0 (by kernel_rfl) cs HCC.out hcl (by kernel_rfl)) ?_;refine b9p (some 15) rfl rfl 46 53 (.tmp 14) rfl cs (by kernel_rfl) b8g hcl (by decide) ?_;refine b8N (some 16) rfl W2 rfl (.tmp 13) (.tmp 15) 46 rfl w.heap.size b8g (.slice va xs.length vc) xs.length _ (by kernel_rfl) HO1.out cs (by kernel_rfl) hcl HOC.out (by simp only[maxLen];omega) (by omega) hbase ?_;intro g2 cap w10 hown hg10 hv10;have HP:=Hi_ (b6Q.pushedP b0h (w:=w) (E:=E) (x:=x) (p:=q2) HO1.out HO2.out hown hg10 (hv10.imp id fun h k hk=>by(have:g2=k:=Option.some.inj hk);omega) (C:=w1.heap.size) HCS.out hw1 (fun k hk=>Nat.lt_of_lt_of_le (HOLT.out k hk) HWW.out) (HG.out.trans HB.out) hgl HR.out);clear hown hg10 hv10;refine b0P (some 5) (.slice (some ⟨g2,0,none⟩) (xs.length+1) cap) ?_;refine b0C ?_;try simp only[Act.put,lA,lB,lC]
   go_wp2;go_roundw
   case rel=>exact⟨xs++[x],q2,m,Hi_ HP.out.1,Hi_ HP.out.2.2,Hi_ HP.out.2.1,HYN,by omega,hq2,by rw[List.length_append];simp only[List.length_cons,List.length_nil];omega⟩
   case measure =>
    have hM:=HM.out;unfold b7F at hM;simp[b7F];omega
theorem b9c(l:List Tok)(lv:Value)(E g:Nat)(w0:World)(hl:Sl b1V w0 lv l)(hn:l.length≤6000)(hok:∀t∈l,b0r t)(hm:∀t∈l,t.text.size≤maxLen)(hg:w0.heap.size≤g):∀(n:Nat) (s:ByteArray) (p:Nat) (w:World),s≠emp→n≤6001→p≤l.length→Bel w0 w→Ps w g lv p E→l.length-p<n →
  Calls Tryz.prog 143 #[.pointer (some ⟨g,0,none⟩),.string s] w fun r w'=>b3G w g lv l E (b1K l E n s (p,false)) r w':=by
 intro n;induction n using Nat.strongRecOn with
 | _ n ih =>
  intro s p w hs hn2 hp h0 h hf;refine c2D l lv E g n s hs p w0 w hl hn hok hm hg hp h0 h hf hn2 ?_;intro m W k hmn hk hkm hb hr;have HND:=Hi_ (kND (E:=E) hl hn hg);have hgl:=hr.lt;have hX:b2y l E m (k,false)=((b1K l E m b0v (b0A l b0u (k,false))).1,b0A l b0v (b1K l E m b0v (b0A l b0u (k,false))).2):=rfl;have HX:=Hi_ hX;clear hX;have hq1:=b0Q (l:=l) (s:=b0u) (q:=(k,false)) (by decide) hk;have hge:=b1t (l:=l) (s:=b0u) (q:=(k,false));dsimp only at hge;have HR:=Hi_ hr;have HIH:=Hi_ (fun W (q:Nat) (hq:q≤l.length) (hqm:l.length-q<m) (hb:Bel w0 W) (h:Ps W g lv q E)=>ih m hmn b0v q W (by decide) (by omega) hq hb h hqm);clear hr ih hf h;go_enter Tryz.func218,Tryz.ntmps218;go_upto_region 1 with fail;have hgq:W.heap.size≠g:=by omega
  have hba:=(Bel.rfl_ W).al (.cells #[.string ⟨#[123]⟩] 9);have HR2:=Hi_ (HR.out.keep hba);have HG:=Hi_ (hba.grown (some g));go_wp2_with fail
  refine(HND.out _ k W.heap.size [b0u] (hb.tr hba) HR2.out (by decide) (by decide) (Blk.new W _ _) hgq).mono ?_;rintro r w1 hres;rw[show b1M l [b0u] (k,false)=b0A l b0u (k,false) from rfl] at hres;clear hba hgq HR;generalize b0A l b0u (k,false)=st at *;obtain⟨q1,f1⟩:=st;dsimp only at *;cases f1 with
  | true =>
   obtain⟨hgn,rfl⟩:=hres.bad rfl;have HG2:=Hi_ (HG.out.trans hgn);clear hgn hres;go_wp2;exact⟨rfl,.mkBad (by rw[HX.out];dsimp only;rw[b2J (Or.inl rfl)];exact b0a (l:=l) (s:=b0v)) HG2.out⟩
  | false =>
  obtain⟨hgn,hpn,rfl⟩:=hres.good rfl;replace HG:=Hi_ (HG.out.trans hgn);have HR:=Hi_ hpn;clear hgn hpn hres HR2;go_wp2_with fail
  refine(HIH.out _ q1 hq1 (by omega) (b0U hb hg HG.out) HR.out).mono ?_;rintro r w2 hres;have HSZ:=Hi_ HG.out.size;clear HIH;generalize b1K l E m b0v (q1,false)=x2 at *;obtain⟨xs,q2,f2⟩:=x2;dsimp only at *;cases f2 with
  | true =>
   obtain⟨hgn,rfl⟩:=PsR.bad hres rfl;have HG2:=Hi_ (HG.out.trans hgn);clear hgn hres;go_wp2;exact⟨rfl,.mkBad (by rw[HX.out];exact b0a (l:=l) (s:=b0v)) HG2.out⟩
  | false =>
  obtain⟨hgn,hpn,A2,c2,rfl,hsl⟩:=PsR.good hres rfl;replace HG:=Hi_ (HG.out.trans hgn);have HSL:=Hi_ (b0I (B':=W.heap.size) b0h HSZ.out hsl);have HR:=Hi_ hpn;clear hgn hpn hres hsl;go_upto_region 3 with fail;have hgq:w2.heap.size≠g:=by have:=HG.out.size;omega
  have hba:=(Bel.rfl_ w2).al (.cells #[.string ⟨#[125]⟩] 9);have HR2:=Hi_ (HR.out.keep hba);replace HG:=Hi_ (HG.out.trans (hba.grown (some g)));replace HSL:=Hi_ (HSL.out.keep (b0S hba));go_wp2_with fail
  refine(HND.out _ q2 w2.heap.size [b0v] (b0U hb hg HG.out) HR2.out (by decide) (by decide) (Blk.new w2 _ _) hgq).mono ?_;rintro r w3 hres;rw[show b1M l [b0v] (q2,false)=b0A l b0v (q2,false) from rfl] at hres;clear hba hgq HR;generalize b0A l b0v (q2,false)=st at *;obtain⟨q3,f3⟩:=st;try dsimp only at *
  cases f3 with
  | true =>
   obtain⟨hgn,rfl⟩:=hres.bad rfl;have HG2:=Hi_ (HG.out.trans hgn);clear hgn hres;go_wp2;exact⟨rfl,.mkBad (by rw[HX.out]) HG2.out⟩
  | false =>
  obtain⟨hgn,hpn,rfl⟩:=hres.good rfl;have HSL3:=Hi_ (HSL.out.keep (b0M hgn hgl));replace HG:=Hi_ (HG.out.trans hgn);have HR:=Hi_ hpn;clear hgn hpn hres HR2;go_wp2;go_ret;exact .mk HX.out HG.out HR.out HSL3.out
def c7T{α:Type}(r:Rep α)(w:World)(g:Nat)(lv:Value)(l:List Tok)(E:Nat)(x:List α×RS)(e:Ending)(w':World):Prop:=
 PsR w g lv l E x.2 (fun e w'=>∃A c,e=.returned (.slice A x.1.length c)∧Sl r (low w.heap.size w') (.slice A x.1.length c) x.1) e w'
theorem c7T.mk{α:Type}{r:Rep α}{w:World}{g:Nat}{lv:Value}{l:List Tok}{E p:Nat}{x:List α×RS}{w':World}{A:Option Addr}{c:Nat}{xs:List α}(hx:x=(xs,(p,false)))(hg:w.grownBy w' (some g))(hr:Ps w' g lv p E)(h:Sl r (low w.heap.size w') (.slice A xs.length c) xs):c7T r w g lv l E x (.returned (.slice A xs.length c)) w':=by
 subst hx;exact .mkGood rfl hg hr ⟨A,c,rfl,h⟩
theorem c5i{l:List Tok}{p:Nat}(h:tx l p false=b7d):b5O l (p,false)=(⟨(b0D l (p+1,false)).1,0⟩,b0A l b0s (b0D l (p+1,false)).2):=by
 unfold b5O;simp only[];rw[b0G (l:=l) (p:=p) (s:=tx l p false) rfl,if_neg (by rw[h];decide)]
theorem c5h{l:List Tok}{p:Nat}(h:tx l p false=b5t):b5O l (p,false)=(⟨(b0D l (p+1,false)).1,(b2w l (b1c (decide (tx l (b0D l (p+1,false)).2.1 (b0D l (p+1,false)).2.2=b3C)) (b0D l (p+1,false)).2)).1⟩,b0A l b0s (b2w l (b1c (decide (tx l (b0D l (p+1,false)).2.1 (b0D l (p+1,false)).2.2=b3C)) (b0D l (p+1,false)).2)).2):=by
 unfold b5O;simp only[];rw[b0G (l:=l) (p:=p) (s:=tx l p false) rfl,if_pos h]
theorem b2D{l:List Tok}{n p:Nat}:b1b l n (p,true)=([],(p,true)):=b3S (by simp)
theorem b9e(l:List Tok)(lv:Value)(E g n:Nat)(p0:Nat)(w0 w:World)(hl:Sl b1V w0 lv l)(hn:l.length≤6000)(hok:∀t∈l,b0r t)(hm:∀t∈l,t.text.size≤maxLen)(hg:w0.heap.size≤g)(hp:p0≤l.length)(h0:Bel w0 w)(h:Ps w g lv p0 E)(hf:l.length-p0<n)(hn2:n≤6001) :
  Calls Tryz.prog 142 #[.pointer (some ⟨g,0,none⟩)] w fun r w'=>c7T tvR w g lv l E (b1b l n (p0,false)) r w':=by
 have HTN:=Hi_ (kTN (E:=E) (g:=g) hl hn);have HTY:=Hi_ (kTY (E:=E) (g:=g) hl hn);have HSE:=Hi_ (kSE (E:=E) (g:=g) hl hn);have HFL:=Hi_ (kFL (E:=E) (g:=g) hl hn);have HNA:=Hi_ (kNA (E:=E) hl hn hm hg);have HNU:=Hi_ (kNU (E:=E) hl hn hok hg);have HND:=Hi_ (kND (E:=E) hl hn hg);have hgl:=h.lt;have HR0:=Hi_ h;obtain⟨y,hy⟩:∃y,y=b1b l n (p0,false):=⟨_,rfl⟩;have HY0:Hid ((([]:List TV)++(b1b l n (p0,false)).1,(b1b l n (p0,false)).2)=y):=Hi_ hy.symm;rw[←hy];clear hy h;go_enter Tryz.func142,Tryz.ntmps142;go_wp2;go_loopw [3] (fun v wr=>∃(xs:List TV) (p m:Nat),Hid (b6Q tvR 55 w.heap.size wr v xs)∧Hid (Ps wr g lv p E)∧Hid (w.grownBy wr (some g))∧Hid ((xs++(b1b l m (p,false)).1,(b1b l m (p,false)).2)=y)∧l.length-p<m∧p≤l.length∧xs.length+m=n) (fun v _=>n-b7F v)
 case atStart=>exact⟨[],p0,n,b6Q.nil _ _ _ _,HR0,World.grownBy.refl _ _,HY0,hf,hp,by simp⟩
 case round =>
  obtain⟨xs,p,m,HO,HR,HG,HY,hlt,hq,hxm⟩:=hrel;clear HR0 HY0 hf hp;have HM:=Hi_ HO.out.len;obtain⟨va,vc,rfl⟩:=HO.out.slice;have hba:=(Bel.rfl_ wr).al (.cells #[.string ⟨#[]⟩,.int .i64 0] 55);have HV:=Hi_ (Blk.new wr 55 #[.string ⟨#[]⟩,.int .i64 0]);have HB:=Hi_ (hba.grown (some g));replace HR:=Hi_ (HR.out.keep hba);have hwr:=HG.out.size;clear hba;go_upto_region 4 with fail;generalize wr.alloc (.cells #[.string ⟨#[]⟩,.int .i64 0] 55)=W2 at *;generalize hG:wr.heap.size=G at *;have hGg:g<G:=by omega
  have hGw:w.heap.size≤G:=by omega
  by_cases hv:tx l p false=b7d
  ·have hgo:tx l p false=b7d∨tx l p false=b5t:=.inl hv;obtain⟨m,rfl⟩:∃m',m=m'+1:=⟨m-1,by omega⟩;have HGO:=Hi_ (b5B (n:=m) (q:=(p,false)) rfl hgo);have HLE:=Hi_ (b9F (q:=(p,false)) hok rfl hgo hq);have HVD:=Hi_ (c5i hv);have hlt1:=b3E (l:=l) (p:=p) (f:=false) (by rw[hv];decide);have hns:=b1y (l:=l) (q:=(p+1,false)) hm;have HT:=Hi_ hv;clear hgo hv;go_wp2_with fail
   refine(HTY.out _ p b7d (by decide) HT.out (b0U h0 hg (HG.out.trans HB.out)) HR.out).mono ?_;rintro r w4 ⟨rfl,hpn,hgn⟩;replace HB:=Hi_ (HB.out.trans hgn);replace HV:=Hi_ (HV.out.grown hgn (by simp;omega));replace HR:=Hi_ hpn;clear hgn hpn;go_wp2_with fail
   refine(HNA.out _ (p+1) (b0U h0 hg (HG.out.trans HB.out)) HR.out).mono ?_;rintro r w5 hres;have hnl:=b1G (l:=l) (q:=(p+1,false)) hlt1;generalize b0D l (p+1,false)=nn at *;obtain⟨nm,q2,f2⟩:=nn;dsimp only at *;cases f2 with
   | true =>
    obtain⟨hgn,rfl⟩:=hres.bad rfl;have HG2:=Hi_ (HG.out.trans (HB.out.trans hgn));clear hgn hres;go_wp2;exact⟨rfl,.mkBad (by rw[←HY.out,HGO.out,HVD.out];dsimp only;rw[b0a,b2D]) HG2.out⟩
   | false =>
   obtain⟨hgn,hpn,rfl⟩:=hres.good rfl;clear hres;replace HB:=Hi_ (HB.out.trans hgn);replace HV:=Hi_ (HV.out.grown hgn (by simp;omega));replace HR:=Hi_ hpn;clear hgn hpn;have z0:=HV.out.cell (i:=0) rfl;have fz0:=HV.out.frozen 0;go_upto_region 11 with fail;replace HV:=Hi_ (show Blk _ G 55 #[.string nm,.int .i64 0] from HV.out.set_ 0 (.string nm));replace HR:=Hi_ (show Ps _ g lv _ E from Blk.far_ (R:=G) HR.out (by omega) 0 (.string nm));replace HB:=Hi_ (b2L HB.out (Nat.le_of_eq hG) 0 (.string nm));generalize World.setCell _ _ _=W6 at *;clear z0 fz0;have hq2:q2≤l.length:=hnl;have hgq:W6.heap.size≠g:=by have:=HB.out.size;omega
   have hb:=(Bel.rfl_ W6).al (.cells #[.string ⟨#[59]⟩] 9);replace HB:=Hi_ (HB.out.trans (hb.grown (some g)));replace HV:=Hi_ (HV.out.keep hb);replace HR:=Hi_ (HR.out.keep hb);clear hb;go_wp2_with fail
   refine(HND.out _ q2 W6.heap.size [b0s] (b0U h0 hg (HG.out.trans HB.out)) HR.out (by decide) (by decide) (Blk.new W6 _ _) hgq).mono ?_;rintro r w8 hres;rw[show b1M l [b0s] (q2,false)=b0A l b0s (q2,false) from rfl] at hres;clear hgq;have hnd:=b0Q (l:=l) (s:=b0s) (q:=(q2,false)) (by decide) hq2;generalize b0A l b0s (q2,false)=st at *;obtain⟨q9,f9⟩:=st;dsimp only at *;cases f9 with
   | true =>
    obtain⟨hgn,rfl⟩:=hres.bad rfl;have HG2:=Hi_ (HG.out.trans (HB.out.trans hgn));clear hgn hres;go_wp2;exact⟨rfl,.mkBad (by rw[←HY.out,HGO.out,HVD.out];dsimp only;rw[b2D]) HG2.out⟩
   | false =>
   obtain⟨hgn,hpn,rfl⟩:=hres.good rfl;clear hres;replace HB:=Hi_ (HB.out.trans hgn);replace HV:=Hi_ (HV.out.grown hgn (by simp;omega));replace HR:=Hi_ hpn;clear hgn hpn;have HCC:=Hi_ (b3W (cs:=[.string nm,.int .i64 0]) HV.out);have HOW:=Hi_ (HO.out.at_ b1J HB.out fun k hk=>by cases hk;exact hgl);have hbase:w.heap.size≤w8.heap.size:=Nat.le_trans hwr (hG▸HB.out.size);obtain⟨cells,ho1,ho2⟩:=HOW.out;have HO1:=Hi_ ho1;have HO2:=Hi_ ho2;have hxs:xs.length≤6000:=by omega
   have HYN:Hid ((xs++[⟨nm,0⟩]++(b1b l m (q9,false)).1,(b1b l m (q9,false)).2)=y):=Hi_ (by rw[←HY.out,HGO.out,HVD.out,List.append_assoc,List.singleton_append]);have hgt:=HLE.out.1;rw[HVD.out] at hgt;dsimp only at hgt;clear ho1 ho2 HOW HO HY HGO;go_upto_region 12 with fail;refine b0E ?_;refine b0P (some 29) (.slice va xs.length vc) ?_;refine b0R (some 30) _ (b0B 55 _ rfl b9u G 0 (by kernel_rfl) [.string nm,.int .i64 0] HCC.out rfl (by kernel_rfl)) ?_;refine b9p (some 31) rfl rfl 45 55 (.tmp 30) rfl [.string nm,.int .i64 0] (by kernel_rfl) b9u rfl (by decide) ?_;refine b8N (some 32) rfl w8 rfl (.tmp 29) (.tmp 31) 45 rfl w.heap.size b9u (.slice va xs.length vc) xs.length _ (by kernel_rfl) HO1.out [.string nm,.int .i64 0] (by kernel_rfl) rfl (by simp[Value.oneCell']) (by simp only[maxLen];omega) (by omega) hbase ?_;intro g2 cap w10 hown hg10 hv10;have HP:=Hi_ (b6Q.pushedP b1J (w:=w) (E:=E) (x:=⟨nm,0⟩) (p:=q9) HO1.out HO2.out hown hg10 (hv10.imp id fun h k hk=>by(have:g2=k:=Option.some.inj hk);omega) (C:=w8.heap.size) ⟨rfl,hns⟩ hbase (fun k hk=>(HO1.out.lt k hk).2) (HG.out.trans HB.out) hgl HR.out);clear hown hg10 hv10;refine b0P (some 3) (.slice (some ⟨g2,0,none⟩) (xs.length+1) cap) ?_;refine b0C ?_;try simp only[Act.put,lA,lB,lC]
   go_wp2;go_roundw
   case rel=>exact⟨xs++[⟨nm,0⟩],q9,m,Hi_ HP.out.1,Hi_ HP.out.2.2,Hi_ HP.out.2.1,HYN,by omega,hnd,by rw[List.length_append];simp only[List.length_cons,List.length_nil];omega⟩
   case measure =>
    have hM:=HM.out;unfold b7F at hM;simp[b7F];omega
  by_cases ha:tx l p false=b5t
  ·have hgo:tx l p false=b7d∨tx l p false=b5t:=.inr ha;have HNV:=Hi_ hv;replace hv:=ha;clear ha;obtain⟨m,rfl⟩:∃m',m=m'+1:=⟨m-1,by omega⟩;have HGO:=Hi_ (b5B (n:=m) (q:=(p,false)) rfl hgo);have HLE:=Hi_ (b9F (q:=(p,false)) hok rfl hgo hq);have HVD:=Hi_ (c5h hv);have hlt1:=b3E (l:=l) (p:=p) (f:=false) (by rw[hv];decide);have hns:=b1y (l:=l) (q:=(p+1,false)) hm;have HT:=Hi_ hv;clear hgo hv;go_wp2_with fail
   refine(HTN.out _ p b7d (by decide) HNV.out (b0U h0 hg (HG.out.trans HB.out)) HR.out).mono ?_;rintro r w3 ⟨rfl,hb⟩;replace HB:=Hi_ (HB.out.trans (hb.grown (some g)));replace HV:=Hi_ (HV.out.keep hb);replace HR:=Hi_ (HR.out.keep hb);clear hb;go_wp2_with fail
   refine(HTY.out _ p b5t (by decide) HT.out (b0U h0 hg (HG.out.trans HB.out)) HR.out).mono ?_;rintro r w4 ⟨rfl,hpn,hgn⟩;replace HB:=Hi_ (HB.out.trans hgn);replace HV:=Hi_ (HV.out.grown hgn (by simp;omega));replace HR:=Hi_ hpn;clear hgn hpn;go_wp2_with fail
   refine(HNA.out _ (p+1) (b0U h0 hg (HG.out.trans HB.out)) HR.out).mono ?_;rintro r w5 hres;have hnl:=b1G (l:=l) (q:=(p+1,false)) hlt1;generalize b0D l (p+1,false)=nn at *;obtain⟨nm,q2,f2⟩:=nn;dsimp only at *;cases f2 with
   | true =>
    obtain⟨hgn,rfl⟩:=hres.bad rfl;have HG2:=Hi_ (HG.out.trans (HB.out.trans hgn));clear hgn hres;go_wp2;exact⟨rfl,.mkBad (by rw[←HY.out,HGO.out,HVD.out];dsimp only;rw[decide_eq_false (by rw[b4D];decide),b3Y,b8q,b0a,b2D]) HG2.out⟩
   | false =>
   obtain⟨hgn,hpn,rfl⟩:=hres.good rfl;clear hres;replace HB:=Hi_ (HB.out.trans hgn);replace HV:=Hi_ (HV.out.grown hgn (by simp;omega));replace HR:=Hi_ hpn;clear hgn hpn;have z0:=HV.out.cell (i:=0) rfl;have fz0:=HV.out.frozen 0;go_upto_region 8 with fail;replace HV:=Hi_ (show Blk _ G 55 #[.string nm,.int .i64 0] from HV.out.set_ 0 (.string nm));replace HR:=Hi_ (show Ps _ g lv _ E from Blk.far_ (R:=G) HR.out (by omega) 0 (.string nm));replace HB:=Hi_ (b2L HB.out (Nat.le_of_eq hG) 0 (.string nm));generalize World.setCell _ _ _=W6 at *;clear z0 fz0;have hq1:q2≤l.length:=hnl;by_cases hz:tx l q2 false=b3C
   ·have HZ:=Hi_ (decide_eq_true hz);clear hz;go_wp2_with fail
    refine(HSE.out _ q2 b3C true (by decide) HZ.out (b0U h0 hg (HG.out.trans HB.out)) HR.out).mono ?_;rintro r w6 ⟨rfl,hb⟩;replace HB:=Hi_ (HB.out.trans (hb.grown (some g)));replace HV:=Hi_ (HV.out.keep hb);replace HR:=Hi_ (HR.out.keep hb);clear hb;go_wp2_with fail
    refine(HFL.out _ q2 (b0U h0 hg (HG.out.trans HB.out)) HR.out).mono ?_;rintro r w7 ⟨rfl,hb⟩;have HG2:=Hi_ (HG.out.trans (HB.out.trans (hb.grown (some g))));clear hb;go_wp2;exact⟨rfl,.mkBad (by rw[←HY.out,HGO.out,HVD.out];dsimp only;rw[HZ.out,b7q,b8q,b0a,b2D]) HG2.out⟩
   have HZ:=Hi_ (decide_eq_false hz);rw[HZ.out,b3Y] at HVD;clear hz;go_wp2_with fail
   refine(HSE.out _ q2 b3C false (by decide) HZ.out (b0U h0 hg (HG.out.trans HB.out)) HR.out).mono ?_;rintro r w6 ⟨rfl,hb⟩;replace HB:=Hi_ (HB.out.trans (hb.grown (some g)));replace HV:=Hi_ (HV.out.keep hb);replace HR:=Hi_ (HR.out.keep hb);clear hb;go_wp2_with fail
   refine(HNU.out _ q2 (b0U h0 hg (HG.out.trans HB.out)) HR.out).mono ?_;rintro r w7 hres;have hnl2:=(b3o (l:=l) (q:=(q2,false)) hok hq1).1;generalize b2w l (q2,false)=nn at *;obtain⟨kk,q3,f3⟩:=nn;dsimp only at *;cases f3 with
   | true =>
    obtain⟨hgn,rfl⟩:=hres.bad rfl;have HG2:=Hi_ (HG.out.trans (HB.out.trans hgn));clear hgn hres;go_wp2;exact⟨rfl,.mkBad (by rw[←HY.out,HGO.out,HVD.out];dsimp only;rw[b0a,b2D]) HG2.out⟩
   | false =>
   obtain⟨hgn,hpn,rfl⟩:=hres.good rfl;clear hres;replace HB:=Hi_ (HB.out.trans hgn);replace HV:=Hi_ (HV.out.grown hgn (by simp;omega));replace HR:=Hi_ hpn;clear hgn hpn;have z1:=HV.out.cell (i:=1) rfl;have fz1:=HV.out.frozen 1;go_upto_region 11 with fail;replace HV:=Hi_ (show Blk _ G 55 #[.string nm,.int .i64 kk] from HV.out.set_ 1 (.int .i64 kk));replace HR:=Hi_ (show Ps _ g lv _ E from Blk.far_ (R:=G) HR.out (by omega) 1 (.int .i64 kk));replace HB:=Hi_ (b2L HB.out (Nat.le_of_eq hG) 1 (.int .i64 kk));generalize World.setCell _ _ _=W7 at *;clear z1 fz1;have hq2:q3≤l.length:=hnl2;have hgq:W7.heap.size≠g:=by have:=HB.out.size;omega
   have hb:=(Bel.rfl_ W7).al (.cells #[.string ⟨#[59]⟩] 9);replace HB:=Hi_ (HB.out.trans (hb.grown (some g)));replace HV:=Hi_ (HV.out.keep hb);replace HR:=Hi_ (HR.out.keep hb);clear hb;go_wp2_with fail
   refine(HND.out _ q3 W7.heap.size [b0s] (b0U h0 hg (HG.out.trans HB.out)) HR.out (by decide) (by decide) (Blk.new W7 _ _) hgq).mono ?_;rintro r w8 hres;rw[show b1M l [b0s] (q3,false)=b0A l b0s (q3,false) from rfl] at hres;clear hgq;have hnd:=b0Q (l:=l) (s:=b0s) (q:=(q3,false)) (by decide) hq2;generalize b0A l b0s (q3,false)=st at *;obtain⟨q9,f9⟩:=st;dsimp only at *;cases f9 with
   | true =>
    obtain⟨hgn,rfl⟩:=hres.bad rfl;have HG2:=Hi_ (HG.out.trans (HB.out.trans hgn));clear hgn hres;go_wp2;exact⟨rfl,.mkBad (by rw[←HY.out,HGO.out,HVD.out];dsimp only;rw[b2D]) HG2.out⟩
   | false =>
   obtain⟨hgn,hpn,rfl⟩:=hres.good rfl;clear hres;replace HB:=Hi_ (HB.out.trans hgn);replace HV:=Hi_ (HV.out.grown hgn (by simp;omega));replace HR:=Hi_ hpn;clear hgn hpn;have HCC:=Hi_ (b3W (cs:=[.string nm,.int .i64 kk]) HV.out);have HOW:=Hi_ (HO.out.at_ b1J HB.out fun k hk=>by cases hk;exact hgl);have hbase:w.heap.size≤w8.heap.size:=Nat.le_trans hwr (hG▸HB.out.size);obtain⟨cells,ho1,ho2⟩:=HOW.out;have HO1:=Hi_ ho1;have HO2:=Hi_ ho2;have hxs:xs.length≤6000:=by omega
   have HYN:Hid ((xs++[⟨nm,kk⟩]++(b1b l m (q9,false)).1,(b1b l m (q9,false)).2)=y):=Hi_ (by rw[←HY.out,HGO.out,HVD.out,List.append_assoc,List.singleton_append]);have hgt:=HLE.out.1;rw[HVD.out] at hgt;dsimp only at hgt;clear ho1 ho2 HOW HO HY HGO;go_upto_region 12 with fail;refine b0E ?_;refine b0P (some 29) (.slice va xs.length vc) ?_;refine b0R (some 30) _ (b0B 55 _ rfl b9u G 0 (by kernel_rfl) [.string nm,.int .i64 kk] HCC.out rfl (by kernel_rfl)) ?_;refine b9p (some 31) rfl rfl 45 55 (.tmp 30) rfl [.string nm,.int .i64 kk] (by kernel_rfl) b9u rfl (by decide) ?_;refine b8N (some 32) rfl w8 rfl (.tmp 29) (.tmp 31) 45 rfl w.heap.size b9u (.slice va xs.length vc) xs.length _ (by kernel_rfl) HO1.out [.string nm,.int .i64 kk] (by kernel_rfl) rfl (by simp[Value.oneCell']) (by simp only[maxLen];omega) (by omega) hbase ?_;intro g2 cap w10 hown hg10 hv10;have HP:=Hi_ (b6Q.pushedP b1J (w:=w) (E:=E) (x:=⟨nm,kk⟩) (p:=q9) HO1.out HO2.out hown hg10 (hv10.imp id fun h k hk=>by(have:g2=k:=Option.some.inj hk);omega) (C:=w8.heap.size) ⟨rfl,hns⟩ hbase (fun k hk=>(HO1.out.lt k hk).2) (HG.out.trans HB.out) hgl HR.out);clear hown hg10 hv10;refine b0P (some 3) (.slice (some ⟨g2,0,none⟩) (xs.length+1) cap) ?_;refine b0C ?_;try simp only[Act.put,lA,lB,lC]
   go_wp2;go_roundw
   case rel=>exact⟨xs++[⟨nm,kk⟩],q9,m,Hi_ HP.out.1,Hi_ HP.out.2.2,Hi_ HP.out.2.1,HYN,by omega,hnd,by rw[List.length_append];simp only[List.length_cons,List.length_nil];omega⟩
   case measure =>
    have hM:=HM.out;unfold b7F at hM;simp[b7F];omega
  have HNV:=Hi_ hv;have HNR:=Hi_ ha;have HE:=HY.out;rw[b3S (by rintro⟨-,h | h⟩;exact hv h;exact ha h),List.append_nil] at HE;clear hv ha;go_wp2_with fail
  refine(HTN.out _ p b7d (by decide) HNV.out (b0U h0 hg (HG.out.trans HB.out)) HR.out).mono ?_;rintro r w3 ⟨rfl,hb⟩;replace HB:=Hi_ (HB.out.trans (hb.grown (some g)));replace HV:=Hi_ (HV.out.keep hb);replace HR:=Hi_ (HR.out.keep hb);clear hb;go_wp2_with fail
  refine(HTN.out _ p b5t (by decide) HNR.out (b0U h0 hg (HG.out.trans HB.out)) HR.out).mono ?_;rintro r w4 ⟨rfl,hb⟩;replace HB:=Hi_ (HB.out.trans (hb.grown (some g)));replace HV:=Hi_ (HV.out.keep hb);replace HR:=Hi_ (HR.out.keep hb);clear hb;have HOW:=Hi_ (HO.out.at_ b1J HB.out fun k hk=>by cases hk;exact hgl);go_wp2;go_ret;exact .mk HE.symm (HG.out.trans HB.out) HR.out (HOW.out.sl b1J)
end Go.Proofs.YtmfjlcpjemccmaaGreatDoor
