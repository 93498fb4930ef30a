/- The document's reader of variables: walked. Each lemma states its own conditions. -/
import Derived.Test.YtmfjlcpjemccmaaGreatDoorSbk14
import Derived.Great.BuildSlice
import Derived.Deep.MidRow
import Derived.Deep.WholeRow
import Derived.Great.Walk
namespace Go.Proofs.YtmfjlcpjemccmaaGreatDoor
set_option maxRecDepth 20000
set_option maxHeartbeats 4000000
open Go.RowKit
theorem b8j{w W W2:World}{g:Nat}{o:Option Nat}(h:w.grownBy W (some g))(h2:W.grownBy W2 o)(ho:∀k,o=some k→w.heap.size≤k):w.grownBy W2 (some g):=
 ⟨h2.os.trans h.os,h2.tape.trans h.tape,h2.output.trans h.output,Nat.le_trans h.size h2.size,fun x hx hne=>(h2.block x (Nat.lt_of_lt_of_le hx h.size) (fun e=>by
  have:=ho x e.symm;omega)).trans (h.block x hx hne)⟩
theorem b6Q.pushed{α:Type}{r:Rep α}(hm:b9G r){w W W2:World}{e:TypeId}{v v':Value}{xs:List α}{x:α}{cells cs:List Value}{C g:Nat}{lv:Value}{E:Nat}{q:RS}
  (h1:W.ownsRow w.heap.size e r.size v xs.length cells) (h2:∀i x,xs[i]? = some x→r.R (mask (c2m w.heap.size v) W) ((cells.drop (i*r.size)).take r.size) x) (h3:W2.ownsRow w.heap.size e r.size v' (xs.length+1) (cells++cs))
  (hg:W.grownBy W2 v.ownBlock) (hv:v.ownBlock=v'.ownBlock∨∀k,v'.ownBlock=some k→W.heap.size≤k) (hx:r.R (low C W) cs x) (hC:w.heap.size≤C) (hCv:∀k,v.ownBlock=some k→k<C)
  (hgw:w.grownBy W (some g)) (hgl:g<w.heap.size) (hr:Rd W g lv q.1 E q.2):b6Q r e w.heap.size W2 v' (xs++[x])∧w.grownBy W2 (some g)∧Rd W2 g lv q.1 E q.2:=by
 have ho:∀k,v.ownBlock=some k→w.heap.size≤k:=fun k hk=>(h1.lt k hk).1
 exact⟨.push hm h1 h2 h3 hg hv hx hC hCv,b8j hgw hg ho,Blk.grown hr hg (fun e=>by
  have:=ho g e.symm;omega)⟩
theorem c8B(l:List Tok)(lv:Value)(E g n:Nat)(q0:RS)(w0 w:World)(hl:Sl b1V w0 lv l)(hn:l.length≤6000)(hok:∀t∈l,b0r t)(hm:∀t∈l,t.text.size≤maxLen)(hg:w0.heap.size≤g)(hp:q0.1≤l.length)(h0:Bel w0 w)(h:Rd w g lv q0.1 E q0.2)(hf:q0.2=true∨l.length-q0.1<n)(hn2:n≤6001) :
  Calls Tryz.prog 56 #[.pointer (some ⟨g,0,none⟩)] w fun r w'=>b4E tvR w g lv E (b1b l n q0) r w':=by
 have HTX:=Hi_ (jTX (g:=g) (E:=E) hl hn);have HND:=Hi_ (jND (g:=g) (E:=E) hl hn);have HNA:=Hi_ (jNA (g:=g) (E:=E) hl hn hm);have HNU:=Hi_ (jNU (g:=g) (E:=E) hl hn hok);have hgl:=h.lt;have HR0:=Hi_ h;have HF0:=Hi_ hf;have hX:∃y,y=b1b l n q0:=⟨_,rfl⟩;obtain⟨y,hy⟩:=hX;have HY0:Hid ((([]:List TV)++(b1b l n q0).1,(b1b l n q0).2)=y):=Hi_ hy.symm;rw[←hy];clear hy h hf;go_enter Tryz.func56,Tryz.ntmps56;go_wp2;go_loopw [3] (fun v wr=>∃(xs:List TV) (q:RS) (m:Nat),Hid (b6Q tvR 55 w.heap.size wr v xs)∧Hid (Rd wr g lv q.1 E q.2)∧Hid (w.grownBy wr (some g))∧Hid ((xs++(b1b l m q).1,(b1b l m q).2)=y)∧Hid (q.2=true∨l.length-q.1<m)∧q.1≤l.length∧xs.length+m=n) (fun v _=>n-b7F v)
 case atStart=>exact⟨[],q0,n,b6Q.nil _ _ _ _,HR0,World.grownBy.refl _ _,HY0,HF0,hp,by simp⟩
 case round =>
  obtain⟨xs,q,m,HO,HR,HG,HY,HF,hq,hxm⟩:=hrel;clear HR0 HF0 HY0;have HM:=Hi_ HO.out.len;obtain⟨y0,y1,y2,y3,-,yf⟩:=HR.out.go;obtain⟨p,f⟩:=q;dsimp only at y1 y3 hq;cases f with
  | true =>
   have HE:=HY.out;rw[b3S (by simp),List.append_nil] at HE;go_wp2;go_ret;exact .mk HE HG.out HR.out (HO.out.sl b1J)
  | false =>
   have hlt:l.length-p<m:=by
    rcases HF.out with h | h
    ·cases h
    ·exact h
   have HTP:=Hi_ (fun W (hb:wr.grownBy W (some g)) (hr:Rd W g lv p E false)=>HTX.out W (p,false) (b0U h0 hg (HG.out.trans hb)) hq hr);by_cases hv:tx l p false=b7d
   ·have e1:((tx l p false).toList==[118,97,114])=true:=b0g hv;have e2:((tx l p false).toList==[97,114,114])=false:=b0L (fun e:tx l p false=b5t=>absurd (hv.symm.trans e) (by decide));have ha:¬tx l p false=b5t:=fun e=>absurd (hv.symm.trans e) (by decide);have hgo:tx l p false=b7d∨tx l p false=b5t:=.inl hv;clear hv;obtain⟨m,rfl⟩:∃m',m=m'+1:=⟨m-1,by omega⟩;have HGO:=Hi_ (b5B (n:=m) (q:=(p,false)) rfl hgo);have HLE:=Hi_ (b9F (q:=(p,false)) hok rfl hgo hq);have he:tx l p false≠emp:=by rcases hgo with h | h<;>rw[h]<;>decide
    have hq1:=b0Q (l:=l) (q:=(p,false)) he hq;have hq2:=b1G (l:=l) hq1;have HVD:Hid (b5O l (p,false)=(⟨(b0D l (b0A l (tx l p false) (p,false))).1,0⟩,b0A l b0s (b0D l (b0A l (tx l p false) (p,false))).2)):=Hi_ (by unfold b5O;simp only[];rw[if_neg ha])
    have hns:(b0D l (b0A l (tx l p false) (p,false))).1.size≤maxLen:=by
     unfold b0D;split
     ·exact b1w hm
     ·exact Nat.zero_le _
    have HB:=Hi_ (World.grownBy.refl wr (some g));clear hgo ha he;go_wp2_with fail
    refine(HTP.out _ HB.out HR.out).mono ?_;rintro r w1 ⟨rfl,hb1⟩;replace HB:=Hi_ (HB.out.trans (hb1.grown (some g)));replace HR:=Hi_ (HR.out.keep hb1);clear hb1;go_wp2_with fail
    refine(HTP.out _ HB.out HR.out).mono ?_;rintro r w3 ⟨rfl,hb1⟩;replace HB:=Hi_ (HB.out.trans (hb1.grown (some g)));replace HR:=Hi_ (HR.out.keep hb1);clear hb1;go_wp2_with fail
    refine(HTP.out _ HB.out HR.out).mono ?_;rintro r w4 ⟨rfl,hb1⟩;replace HB:=Hi_ (HB.out.trans (hb1.grown (some g)));replace HR:=Hi_ (HR.out.keep hb1);clear hb1;go_wp2_with fail
    refine(HND.out _ (p,false) (tx l p false) (b0U h0 hg (HG.out.trans HB.out)) hq HR.out).mono ?_;rintro r w5 ⟨⟨v5,rfl⟩,hr5,hg5⟩;replace HB:=Hi_ (HB.out.trans hg5);replace HR:=Hi_ hr5;clear hr5 hg5 HTP y0 y1 y2 y3 yf;generalize b0A l (tx l p false) (p,false)=q1 at *;have hba:=(Bel.rfl_ w5).al (.cells #[.string ⟨#[]⟩,.int .i64 0] 55);have HV:=Hi_ (Blk.new w5 55 #[.string ⟨#[]⟩,.int .i64 0]);have HVG:Hid (wr.heap.size≤w5.heap.size):=Hi_ HB.out.size;have hwr:=HG.out.size;replace HB:=Hi_ (HB.out.trans (hba.grown (some g)));replace HR:=Hi_ (HR.out.keep hba);clear hba;go_upto_region 6 with fail;generalize w5.alloc (.cells #[.string ⟨#[]⟩,.int .i64 0] 55)=W5 at *;generalize w5.heap.size=G at *;have hGl:=HVG.out;go_wp2_with fail
    refine(HNA.out _ q1 (b0U h0 hg (HG.out.trans HB.out)) hq1 HR.out).mono ?_;rintro r w6 ⟨rfl,hr6,hg6⟩;replace HB:=Hi_ (HB.out.trans hg6);replace HV:=Hi_ (HV.out.grown hg6 (by simp;omega));have HR:=Hi_ hr6;clear hr6 hg6;generalize b0D l q1=nn at *;obtain⟨nm,q2⟩:=nn;dsimp only at *;have fz0:=HV.out.frozen 0;have zz0:=HV.out.cell (i:=0) rfl;go_upto_region 7 with fail;replace HV:=Hi_ (show Blk _ G 55 #[.string nm,.int .i64 0] from HV.out.set_ 0 (.string nm));replace HR:=Hi_ (HR.out.far_ (R:=G) (by omega) 0 (.string nm));replace HB:=Hi_ (b2L HB.out hGl 0 (.string nm));generalize w6.setCell ⟨G,0,none⟩ (.string nm)=W6 at *;replace HR:Hid (Rd W6 g lv q2.1 E q2.2):=HR;clear fz0 zz0;go_wp2_with fail
    refine(HND.out _ q2 ⟨#[59]⟩ (b0U h0 hg (HG.out.trans HB.out)) hq2 HR.out).mono ?_;rintro r w9 ⟨⟨v9,rfl⟩,hr9,hg9⟩;replace HB:=Hi_ (HB.out.trans hg9);replace HV:=Hi_ (HV.out.grown hg9 (by simp;omega));have HR:Hid (Rd w9 g lv (b5O l (p,false)).2.1 E (b5O l (p,false)).2.2):=Hi_ (by rw[HVD.out];exact hr9);clear hr9 hg9;have z0:=HV.out.cell (i:=0) (v:=.string nm) rfl;have z1:=HV.out.cell (i:=1) (v:=.int .i64 0) rfl;have HO9:=Hi_ (HO.out.at_ b1J HB.out fun k hk=>by cases hk;exact hgl);obtain⟨cells,ho1,ho2⟩:=HO9.out;have HO1:=Hi_ ho1;have HO2:=Hi_ ho2;have hxs:xs.length≤6000:=by omega
    have hbase:w.heap.size≤w9.heap.size:=Nat.le_trans hwr HB.out.size;clear ho1 ho2 HO9 HO;go_wp2_with (at_builtin;refine b2v w9 rfl (.tmp 44) (.tmp 46) 45 rfl w.heap.size b9u u3 xs.length _ rfl HO1.out [.string nm,.int .i64 0] rfl rfl (by simp[Value.oneCell']) (by simp only[maxLen];omega) (by omega) hbase ?_;intro g2 cap w10 hown hg10 hv10;have HP:=Hi_ (b6Q.pushed b1J (w:=w) (E:=E) (x:=⟨nm,0⟩) (q:=(b5O l (p,false)).2) HO1.out HO2.out hown hg10 (hv10.imp id fun h k hk=>by(have:g2=k:=Option.some.inj hk);omega) (C:=w9.heap.size) ⟨rfl,hns⟩ hbase (fun k hk=>(HO1.out.lt k hk).2) (HG.out.trans HB.out) hgl HR.out);clear hown hg10 hv10)
    go_roundw
    case rel=>exact⟨xs++[⟨nm,0⟩],(b5O l (p,false)).2,m,Hi_ HP.out.1,Hi_ HP.out.2.2,Hi_ HP.out.2.1,Hi_ (by rw[←HY.out,HGO.out,HVD.out,List.append_assoc];rfl),Hi_ (Or.inr (by have:=HLE.out;omega)),HLE.out.2,by rw[List.length_append];simp only[List.length_cons,List.length_nil];omega⟩
    case measure =>
     have hM:=HM.out;unfold b7F at hM;simp[b7F];omega
   ·by_cases ha:tx l p false=b5t
    ·have e1:((tx l p false).toList==[118,97,114])=false:=b0L hv;have e2:((tx l p false).toList==[97,114,114])=true:=b0g ha;have hgo:tx l p false=b7d∨tx l p false=b5t:=.inr ha;clear hv;obtain⟨m,rfl⟩:∃m',m=m'+1:=⟨m-1,by omega⟩;have HGO:=Hi_ (b5B (n:=m) (q:=(p,false)) rfl hgo);have HLE:=Hi_ (b9F (q:=(p,false)) hok rfl hgo hq);have he:tx l p false≠emp:=by rcases hgo with h | h<;>rw[h]<;>decide
     have hq1:=b0Q (l:=l) (q:=(p,false)) he hq;have hq2:=b1G (l:=l) hq1;have HVD:Hid (b5O l (p,false)=(⟨(b0D l (b0A l (tx l p false) (p,false))).1,(b2w l (b1c (decide (tx l (b0D l (b0A l (tx l p false) (p,false))).2.1 (b0D l (b0A l (tx l p false) (p,false))).2.2=b3C)) (b0D l (b0A l (tx l p false) (p,false))).2)).1⟩,b0A l b0s (b2w l (b1c (decide (tx l (b0D l (b0A l (tx l p false) (p,false))).2.1 (b0D l (b0A l (tx l p false) (p,false))).2.2=b3C)) (b0D l (b0A l (tx l p false) (p,false))).2)).2)):=Hi_ (by unfold b5O;simp only[];rw[if_pos ha])
     have hns:(b0D l (b0A l (tx l p false) (p,false))).1.size≤maxLen:=by
      unfold b0D;split
      ·exact b1w hm
      ·exact Nat.zero_le _
     have HB:=Hi_ (World.grownBy.refl wr (some g));clear hgo ha he;go_wp2_with fail
     refine(HTP.out _ HB.out HR.out).mono ?_;rintro r w1 ⟨rfl,hb1⟩;replace HB:=Hi_ (HB.out.trans (hb1.grown (some g)));replace HR:=Hi_ (HR.out.keep hb1);clear hb1;go_wp2_with fail
     refine(HTP.out _ HB.out HR.out).mono ?_;rintro r w2 ⟨rfl,hb1⟩;replace HB:=Hi_ (HB.out.trans (hb1.grown (some g)));replace HR:=Hi_ (HR.out.keep hb1);clear hb1;go_wp2_with fail
     refine(HTP.out _ HB.out HR.out).mono ?_;rintro r w3 ⟨rfl,hb1⟩;replace HB:=Hi_ (HB.out.trans (hb1.grown (some g)));replace HR:=Hi_ (HR.out.keep hb1);clear hb1;go_wp2_with fail
     refine(HTP.out _ HB.out HR.out).mono ?_;rintro r w4 ⟨rfl,hb1⟩;replace HB:=Hi_ (HB.out.trans (hb1.grown (some g)));replace HR:=Hi_ (HR.out.keep hb1);clear hb1;go_wp2_with fail
     refine(HND.out _ (p,false) (tx l p false) (b0U h0 hg (HG.out.trans HB.out)) hq HR.out).mono ?_;rintro r w5 ⟨⟨v5,rfl⟩,hr5,hg5⟩;replace HB:=Hi_ (HB.out.trans hg5);replace HR:=Hi_ hr5;clear hr5 hg5 HTP y0 y1 y2 y3 yf;generalize b0A l (tx l p false) (p,false)=q1 at *;have hba:=(Bel.rfl_ w5).al (.cells #[.string ⟨#[]⟩,.int .i64 0] 55);have HV:=Hi_ (Blk.new w5 55 #[.string ⟨#[]⟩,.int .i64 0]);have HVG:Hid (wr.heap.size≤w5.heap.size):=Hi_ HB.out.size;have hwr:=HG.out.size;replace HB:=Hi_ (HB.out.trans (hba.grown (some g)));replace HR:=Hi_ (HR.out.keep hba);clear hba;go_upto_region 6 with fail;generalize w5.alloc (.cells #[.string ⟨#[]⟩,.int .i64 0] 55)=W5 at *;generalize w5.heap.size=G at *;have hGl:=HVG.out;go_wp2_with fail
     refine(HNA.out _ q1 (b0U h0 hg (HG.out.trans HB.out)) hq1 HR.out).mono ?_;rintro r w6 ⟨rfl,hr6,hg6⟩;replace HB:=Hi_ (HB.out.trans hg6);replace HV:=Hi_ (HV.out.grown hg6 (by simp;omega));have HR:=Hi_ hr6;clear hr6 hg6;generalize b0D l q1=nn at *;obtain⟨nm,q2⟩:=nn;dsimp only at *;have fz0:=HV.out.frozen 0;have zz0:=HV.out.cell (i:=0) rfl;go_upto_region 7 with fail;replace HV:=Hi_ (show Blk _ G 55 #[.string nm,.int .i64 0] from HV.out.set_ 0 (.string nm));replace HR:=Hi_ (HR.out.far_ (R:=G) (by omega) 0 (.string nm));replace HB:=Hi_ (b2L HB.out hGl 0 (.string nm));generalize w6.setCell ⟨G,0,none⟩ (.string nm)=W6 at *;replace HR:Hid (Rd W6 g lv q2.1 E q2.2):=HR;clear fz0 zz0;go_wp2_with fail
     refine(HTX.out _ q2 (b0U h0 hg (HG.out.trans HB.out)) hq2 HR.out).mono ?_;rintro r w7 ⟨rfl,hb1⟩;replace HB:=Hi_ (HB.out.trans (hb1.grown (some g)));replace HR:=Hi_ (HR.out.keep hb1);replace HV:=Hi_ (HV.out.keep hb1);clear hb1;by_cases hz:tx l q2.1 q2.2=b3C
     ·have e48:((tx l q2.1 q2.2).toList==[48])=true:=b0g hz;have hfd:b1c (decide (tx l q2.1 q2.2=b3C)) q2=(q2.1,true):=by unfold b1c;rw[decide_eq_true hz];rfl
      rw[hfd] at HVD;have hq3:=(b3o (q:=(q2.1,true)) hok hq2).1;clear hz hfd;obtain⟨y0,y1,y2,y3,-,yf⟩:=HR.out.go;go_upto_region 10 with fail;replace HV:=Hi_ (HV.out.far_ (R:=g) (by omega) 3 (.bool true));replace HB:=Hi_ (b1E HB.out 3 (.bool true));replace HR:=Hi_ HR.out.bad;generalize w7.setCell ⟨g,3,none⟩ (.bool true)=W7 at *;clear y0 y1 y2 y3 yf;go_wp2_with fail
      refine(HNU.out _ (q2.1,true) (b0U h0 hg (HG.out.trans HB.out)) hq2 HR.out).mono ?_;rintro r w8 ⟨rfl,hr8,hg8⟩;replace HB:=Hi_ (HB.out.trans hg8);replace HV:=Hi_ (HV.out.grown hg8 (by simp;omega));have HR:=Hi_ hr8;clear hr8 hg8;generalize b2w l (q2.1,true)=kk at *;obtain⟨k8,q4⟩:=kk;dsimp only at *;have fz1:=HV.out.frozen 1;have zz1:=HV.out.cell (i:=1) rfl;go_upto_region 11 with fail;replace HV:=Hi_ (show Blk _ G 55 #[.string nm,.int .i64 k8] from HV.out.set_ 1 (.int .i64 k8));replace HR:=Hi_ (HR.out.far_ (R:=G) (by omega) 1 (.int .i64 k8));replace HB:=Hi_ (b2L HB.out hGl 1 (.int .i64 k8));generalize w8.setCell ⟨G,1,none⟩ (.int .i64 k8)=W8 at *;replace HR:Hid (Rd W8 g lv q4.1 E q4.2):=HR;clear fz1 zz1;go_wp2_with fail
      refine(HND.out _ q4 ⟨#[59]⟩ (b0U h0 hg (HG.out.trans HB.out)) hq3 HR.out).mono ?_;rintro r w9 ⟨⟨v9,rfl⟩,hr9,hg9⟩;replace HB:=Hi_ (HB.out.trans hg9);replace HV:=Hi_ (HV.out.grown hg9 (by simp;omega));have HR:Hid (Rd w9 g lv (b5O l (p,false)).2.1 E (b5O l (p,false)).2.2):=Hi_ (by rw[HVD.out];exact hr9);clear hr9 hg9;have z0:=HV.out.cell (i:=0) (v:=.string nm) rfl;have z1:=HV.out.cell (i:=1) (v:=.int .i64 k8) rfl;have HO9:=Hi_ (HO.out.at_ b1J HB.out fun k hk=>by cases hk;exact hgl);obtain⟨cells,ho1,ho2⟩:=HO9.out;have HO1:=Hi_ ho1;have HO2:=Hi_ ho2;have hxs:xs.length≤6000:=by omega
      have hbase:w.heap.size≤w9.heap.size:=Nat.le_trans hwr HB.out.size;clear ho1 ho2 HO9 HO;go_wp2_with (at_builtin;refine b2v w9 rfl (.tmp 44) (.tmp 46) 45 rfl w.heap.size b9u u3 xs.length _ rfl HO1.out [.string nm,.int .i64 k8] rfl rfl (by simp[Value.oneCell']) (by simp only[maxLen];omega) (by omega) hbase ?_;intro g2 cap w10 hown hg10 hv10;have HP:=Hi_ (b6Q.pushed b1J (w:=w) (E:=E) (x:=⟨nm,k8⟩) (q:=(b5O l (p,false)).2) HO1.out HO2.out hown hg10 (hv10.imp id fun h k hk=>by(have:g2=k:=Option.some.inj hk);omega) (C:=w9.heap.size) ⟨rfl,hns⟩ hbase (fun k hk=>(HO1.out.lt k hk).2) (HG.out.trans HB.out) hgl HR.out);clear hown hg10 hv10)
      go_roundw
      case rel=>exact⟨xs++[⟨nm,k8⟩],(b5O l (p,false)).2,m,Hi_ HP.out.1,Hi_ HP.out.2.2,Hi_ HP.out.2.1,Hi_ (by rw[←HY.out,HGO.out,HVD.out,List.append_assoc];rfl),Hi_ (Or.inr (by have:=HLE.out;omega)),HLE.out.2,by rw[List.length_append];simp only[List.length_cons,List.length_nil];omega⟩
      case measure =>
       have hM:=HM.out;unfold b7F at hM;simp[b7F];omega
     ·have e48:((tx l q2.1 q2.2).toList==[48])=false:=b0L hz;have hfd:b1c (decide (tx l q2.1 q2.2=b3C)) q2=q2:=by unfold b1c;rw[decide_eq_false hz];rfl
      rw[hfd] at HVD;have hq3:=(b3o (q:=q2) hok hq2).1;clear hz hfd;obtain⟨y0,y1,y2,y3,-,yf⟩:=HR.out.go;clear y0 y1 y2 y3 yf;go_wp2_with fail
      refine(HNU.out _ q2 (b0U h0 hg (HG.out.trans HB.out)) hq2 HR.out).mono ?_;rintro r w8 ⟨rfl,hr8,hg8⟩;replace HB:=Hi_ (HB.out.trans hg8);replace HV:=Hi_ (HV.out.grown hg8 (by simp;omega));have HR:=Hi_ hr8;clear hr8 hg8;generalize b2w l q2=kk at *;obtain⟨k8,q4⟩:=kk;dsimp only at *;have fz1:=HV.out.frozen 1;have zz1:=HV.out.cell (i:=1) rfl;go_upto_region 11 with fail;replace HV:=Hi_ (show Blk _ G 55 #[.string nm,.int .i64 k8] from HV.out.set_ 1 (.int .i64 k8));replace HR:=Hi_ (HR.out.far_ (R:=G) (by omega) 1 (.int .i64 k8));replace HB:=Hi_ (b2L HB.out hGl 1 (.int .i64 k8));generalize w8.setCell ⟨G,1,none⟩ (.int .i64 k8)=W8 at *;replace HR:Hid (Rd W8 g lv q4.1 E q4.2):=HR;clear fz1 zz1;go_wp2_with fail
      refine(HND.out _ q4 ⟨#[59]⟩ (b0U h0 hg (HG.out.trans HB.out)) hq3 HR.out).mono ?_;rintro r w9 ⟨⟨v9,rfl⟩,hr9,hg9⟩;replace HB:=Hi_ (HB.out.trans hg9);replace HV:=Hi_ (HV.out.grown hg9 (by simp;omega));have HR:Hid (Rd w9 g lv (b5O l (p,false)).2.1 E (b5O l (p,false)).2.2):=Hi_ (by rw[HVD.out];exact hr9);clear hr9 hg9;have z0:=HV.out.cell (i:=0) (v:=.string nm) rfl;have z1:=HV.out.cell (i:=1) (v:=.int .i64 k8) rfl;have HO9:=Hi_ (HO.out.at_ b1J HB.out fun k hk=>by cases hk;exact hgl);obtain⟨cells,ho1,ho2⟩:=HO9.out;have HO1:=Hi_ ho1;have HO2:=Hi_ ho2;have hxs:xs.length≤6000:=by omega
      have hbase:w.heap.size≤w9.heap.size:=Nat.le_trans hwr HB.out.size;clear ho1 ho2 HO9 HO;go_wp2_with (at_builtin;refine b2v w9 rfl (.tmp 44) (.tmp 46) 45 rfl w.heap.size b9u u3 xs.length _ rfl HO1.out [.string nm,.int .i64 k8] rfl rfl (by simp[Value.oneCell']) (by simp only[maxLen];omega) (by omega) hbase ?_;intro g2 cap w10 hown hg10 hv10;have HP:=Hi_ (b6Q.pushed b1J (w:=w) (E:=E) (x:=⟨nm,k8⟩) (q:=(b5O l (p,false)).2) HO1.out HO2.out hown hg10 (hv10.imp id fun h k hk=>by(have:g2=k:=Option.some.inj hk);omega) (C:=w9.heap.size) ⟨rfl,hns⟩ hbase (fun k hk=>(HO1.out.lt k hk).2) (HG.out.trans HB.out) hgl HR.out);clear hown hg10 hv10)
      go_roundw
      case rel=>exact⟨xs++[⟨nm,k8⟩],(b5O l (p,false)).2,m,Hi_ HP.out.1,Hi_ HP.out.2.2,Hi_ HP.out.2.1,Hi_ (by rw[←HY.out,HGO.out,HVD.out,List.append_assoc];rfl),Hi_ (Or.inr (by have:=HLE.out;omega)),HLE.out.2,by rw[List.length_append];simp only[List.length_cons,List.length_nil];omega⟩
      case measure =>
       have hM:=HM.out;unfold b7F at hM;simp[b7F];omega
    ·have e1:((tx l p false).toList==[118,97,114])=false:=b0L hv;have e2:((tx l p false).toList==[97,114,114])=false:=b0L ha;have HE:=HY.out;rw[b3S (by rintro⟨-,h | h⟩;exact hv h;exact ha h),List.append_nil] at HE;clear hv ha;go_wp2_with fail
     refine(HTP.out _ (World.grownBy.refl _ _) HR.out).mono ?_;rintro r w1 ⟨rfl,hb1⟩;have HB:=Hi_ (hb1.grown (some g));replace HR:=Hi_ (HR.out.keep hb1);clear hb1;go_wp2_with fail
     refine(HTP.out _ HB.out HR.out).mono ?_;rintro r w2 ⟨rfl,hb1⟩;replace HB:=Hi_ (HB.out.trans (hb1.grown (some g)));replace HR:=Hi_ (HR.out.keep hb1);replace HO:=Hi_ (HO.out.at_ b1J HB.out fun k hk=>by cases hk;exact hgl);clear hb1;go_wp2;go_ret;exact .mk HE (HG.out.trans HB.out) HR.out (HO.out.sl b1J)
theorem b8g:Elem Tryz.prog 46 53 17 248:=Elem.mk_ (z:=.agg zQ0) (by kernel_rfl) (by kernel_rfl) rfl (by decide)
theorem b3L{P:Program}{ops:Array Oper}{rest:List Oper}{o:Oper}{a:Act}{w:World}{Q:Exit→Act→World→Prop}(hg:o.guard=none)(t e:TypeId)(x:Operand)(ho:o.op=.buildSlice t 1 #[(0,x)])
  (cs:List Value) (hx:a.eval x=.agg cs.toArray) {size bytes:Nat} (E:Elem P t e size bytes) (hl:cs.length=size) (hs:size≤1000)
  (h:wpList P ops Q rest (a.put o.dst (.slice (some ⟨w.heap.size,0,none⟩) 1 1)) (w.alloc (.cells cs.toArray e))):wpList P ops Q (o::rest) a w:=by
 obtain⟨i,z,hi,hz,hz1,hz2,hz3⟩:=E.inf;refine wpList_buildSlice hg t e 1 _ ho cs.toArray i z E.und hi hz (by rw[hz1];omega) (by rw[hz1];have:=E.pos;omega) ?_ h;have hp:((#[(0,x)]:Array (Nat×Operand)).map fun(i,x)=>(i,a.eval x)).toList=((([a.eval x]:List Value).zipIdx 0).map fun x=>(x.2,x.1)):=by simp
 rw[hp,hx,hz1];have:=Great.fill_whole (s:=size) E.pos [.agg cs.toArray] ((Array.range (1*size)).map (z.cells[·% z.cells.size]!)) (by simp[Value.cells,hl]) (by simp);rw[this];simp[Value.cells]
theorem b4d{W:World}{cs:List Value}{x:TC}(h:tcR.R W cs x):∀u∈cs,u.oneCell'=true:=by
 obtain⟨xk,xa,xs1,xs2,xi,xe,xargs,xt,xl⟩:=x;obtain⟨vi,ve,va,vt,vs,rfl,-,-,-,-,h1,h2,h3,h4,h5⟩:=TCR.opened h;obtain⟨_,_,rfl,-⟩:=h1;obtain⟨_,_,rfl,-⟩:=h2;obtain⟨_,_,rfl,-⟩:=h3;obtain⟨_,_,rfl,-⟩:=h4;obtain⟨_,_,rfl,-⟩:=h5;simp[Value.oneCell']
theorem c3G(l:List Tok)(lv:Value)(E g n:Nat)(s:ByteArray)(q0:RS)(w0 w:World)(hl:Sl b1V w0 lv l)(hn:l.length≤6000)(hok:∀t∈l,b0r t)(hm:∀t∈l,t.text.size≤maxLen)(hg:w0.heap.size≤g)(hp:q0.1≤l.length)(h0:Bel w0 w)(h:Rd w g lv q0.1 E q0.2)(hf:q0.2=true∨l.length-q0.1<n)(hn2:n≤6001)
  (hblk:∀(m:Nat) (q:RS) W,m<n→q.1≤l.length→Bel w0 W→Rd W g lv q.1 E q.2→(q.2=true∨l.length-q.1<m)→Calls Tryz.prog 146 #[.pointer (some ⟨g,0,none⟩)] W fun r w'=>b4E tcR W g lv E (b2y l E m q) r w') :
  Calls Tryz.prog 57 #[.pointer (some ⟨g,0,none⟩),.string s] w fun r w'=>b4E tcR w g lv E (b1K l E n s q0) r w':=by
 have HTX:=Hi_ (jTX (g:=g) (E:=E) hl hn);have HCM:=Hi_ (fun(m p:Nat) W (hmn:m<n) (hq:p≤l.length) (hb:Bel w0 W) (h:Rd W g lv p E false) (hlm:l.length-p<m+1)=>c6H l lv E g m p (b2y l E m) w0 W hl hn hok hm hg hq hb h hlm (b6X (E:=E) hok m) (fun q W' h1 h2 h3 h4=>hblk m q W' hmn h1 h2 h3 h4));have hgl:=h.lt;have HR0:=Hi_ h;have HF0:=Hi_ hf;obtain⟨y,hy⟩:∃y,y=b1K l E n s q0:=⟨_,rfl⟩;have HY0:Hid ((([]:List TC)++(b1K l E n s q0).1,(b1K l E n s q0).2)=y):=Hi_ hy.symm;rw[←hy];clear hy h hf hblk;go_enter Tryz.func57,Tryz.ntmps57;go_wp2;go_loopw [5] (fun v wr=>∃(xs:List TC) (q:RS) (m:Nat),Hid (b6Q tcR 53 w.heap.size wr v xs)∧Hid (Rd wr g lv q.1 E q.2)∧Hid (w.grownBy wr (some g))∧Hid ((xs++(b1K l E m s q).1,(b1K l E m s q).2)=y)∧Hid (q.2=true∨l.length-q.1<m)∧q.1≤l.length∧xs.length+m=n) (fun v _=>n-b7F v)
 case atStart=>exact⟨[],q0,n,b6Q.nil _ _ _ _,HR0,World.grownBy.refl _ _,HY0,HF0,hp,by simp⟩
 case round =>
  obtain⟨xs,q,m,HO,HR,HG,HY,HF,hq,hxm⟩:=hrel;clear HR0 HF0 HY0;have HM:=Hi_ HO.out.len;obtain⟨y0,y1,y2,y3,-,yf⟩:=HR.out.go;obtain⟨p,f⟩:=q;dsimp only at y1 y3 hq;cases f with
  | true =>
   have HE:=HY.out;rw[b2J (Or.inl rfl),List.append_nil] at HE;go_wp2;go_ret;exact .mk HE HG.out HR.out (HO.out.sl b0h)
  | false =>
   have hlt:l.length-p<m:=by
    rcases HF.out with h | h
    ·cases h
    ·exact h
   by_cases hs:tx l p false=s
   ·have e1:((tx l p false).toList==s.toList)=true:=b2x hs;have HE:=HY.out;rw[b2J (q:=(p,false)) (Or.inr hs),List.append_nil] at HE;clear hs;go_wp2_with fail
    refine(HTX.out _ (p,false) (b0U h0 hg HG.out) hq HR.out).mono ?_;rintro r w1 ⟨rfl,hb1⟩;have HB:=Hi_ (hb1.grown (some g));replace HR:=Hi_ (HR.out.keep hb1);replace HO:=Hi_ (HO.out.keep b0h hb1);clear hb1;go_wp2;go_ret;exact .mk HE (HG.out.trans HB.out) HR.out (HO.out.sl b0h)
   ·have e1:((tx l p false).toList==s.toList)=false:=b2U hs;obtain⟨m,rfl⟩:∃m',m=m'+1:=⟨m-1,by omega⟩;have HGO:=Hi_ (b6Z (E:=E) (n:=m) hs);have HGE:=Hi_ (c3C (E:=E) hok (b6X (E:=E) hok m) p);clear hs;go_wp2_with fail
    refine(HTX.out _ (p,false) (b0U h0 hg HG.out) hq HR.out).mono ?_;rintro r w1 ⟨rfl,hb1⟩;have HB:=Hi_ (hb1.grown (some g));have HWW:Hid (wr.heap.size≤w1.heap.size):=Hi_ hb1.size
    have HOLT:Hid (∀k,u5.ownBlock=some k→k<wr.heap.size):=Hi_ fun k hk=>by
     obtain⟨_,ho,-⟩:=HO.out;exact(ho.lt k hk).2
    replace HR:=Hi_ (HR.out.keep hb1);clear hb1 y0 y1 y2 y3 yf;go_wp2_with fail
    refine(HCM.out m p _ (by omega) hq (b0U h0 hg (HG.out.trans HB.out)) HR.out hlt).mono ?_;rintro r w2 ⟨hgN,hrN,cs,rfl,hcs⟩;have HCZ:Hid (w1.heap.size≤w2.heap.size):=Hi_ hgN.size;replace HB:=Hi_ (HB.out.trans hgN);have HR:=Hi_ hrN;clear hgN hrN;generalize b3O l E (b2y l E m) (p,false)=x2 at *;obtain⟨x,q2⟩:=x2;dsimp only at *;have HCS:Hid (tcR.R (low w1.heap.size w2) cs x):=Hi_ hcs;have hcl:cs.length=17:=tcR.len hcs;have hca:cs.toArray.size=17:=by simpa using hcl
    clear hcs;have HOW:=Hi_ (HO.out.at_ b0h HB.out fun k hk=>by cases hk;exact hgl);have hwr:=HG.out.size;have hbase:w.heap.size≤w2.heap.size:=Nat.le_trans hwr HB.out.size;have hw1:w.heap.size≤w1.heap.size:=Nat.le_trans hwr HWW.out;obtain⟨cells,ho1,ho2⟩:=HOW.out;have HO1:=Hi_ ho1;have HO2:=Hi_ ho2;have hxs:xs.length≤6000:=by omega
    have HOC:Hid (∀u∈cs,u.oneCell'=true):=Hi_ (b4d HCS.out);have HYN:Hid ((xs++[x]++(b1K l E m s q2).1,(b1K l E m s q2).2)=y):=Hi_ (by rw[←HY.out,HGO.out,List.append_assoc,List.singleton_append]);clear ho1 ho2 HOW HO HY HGO;go_wp2_with (first | (refine b3L rfl 46 53 (.tmp 19) rfl cs rfl b8g hcl (by decide) ?_) | (at_builtin;refine b2v w2 rfl (.tmp 17) (.tmp 20) 46 rfl w.heap.size b8g u5 xs.length _ rfl HO1.out cs rfl hcl HOC.out (by simp only[maxLen];omega) (by omega) hbase ?_;intro g2 cap w10 hown hg10 hv10;have HP:=Hi_ (b6Q.pushed b0h (w:=w) (E:=E) (x:=x) (q:=q2) HO1.out HO2.out hown hg10 (hv10.imp id fun h k hk=>by(have:g2=k:=Option.some.inj hk);omega) (C:=w1.heap.size) HCS.out hw1 (fun k hk=>Nat.lt_of_lt_of_le (HOLT.out k hk) HWW.out) (HG.out.trans HB.out) hgl HR.out);clear hown hg10 hv10))
    go_roundw
    case rel=>exact⟨xs++[x],q2,m,Hi_ HP.out.1,Hi_ HP.out.2.2,Hi_ HP.out.2.1,HYN,Hi_ (HGE.out.2.imp (fun h=>h) fun h=>by have:=HGE.out.1.2.1 hq;omega),HGE.out.1.2.1 hq,by rw[List.length_append];simp only[List.length_cons,List.length_nil];omega⟩
    case measure =>
     have hM:=HM.out;unfold b7F at hM;simp[b7F];omega
theorem c7b(l:List Tok)(lv:Value)(E g:Nat)(w0:World)(hl:Sl b1V w0 lv l)(hn:l.length≤6000)(hok:∀t∈l,b0r t)(hm:∀t∈l,t.text.size≤maxLen)(hg:w0.heap.size≤g):∀(n:Nat) (s:ByteArray) (q0:RS) (w:World),n≤6001→q0.1≤l.length→Bel w0 w→Rd w g lv q0.1 E q0.2→(q0.2=true∨l.length-q0.1<n) →
  Calls Tryz.prog 57 #[.pointer (some ⟨g,0,none⟩),.string s] w fun r w'=>b4E tcR w g lv E (b1K l E n s q0) r w':=by
 intro n;induction n using Nat.strongRecOn with
 | _ n ih =>
  intro s q0 w hn2 hp h0 h hf;refine c3G l lv E g n s q0 w0 w hl hn hok hm hg hp h0 h hf hn2 ?_;intro m q W hmn hq hb hr hfu;have HND:=Hi_ (jND (g:=g) (E:=E) hl hn);have hgl:=hr.lt;have hq1:=b0Q (l:=l) (s:=b0u) (q:=q) (by decide) hq
  have HCS:=Hi_ (fun W (hb:Bel w0 W) (h:Rd W g lv (b0A l b0u q).1 E (b0A l b0u q).2)=>ih m hmn b0v (b0A l b0u q) W (by omega) hq1 hb h (by
   have h1:=b0p (l:=l) (t:=b0u) (by decide) q;exact hfu.imp (fun h=>h1.2.2 h) fun h=>by have:=h1.1;omega))
  have hq2:=(b4G (E:=E) hok m b0v (b0A l b0u q)).2.1 hq1;have HX:Hid (b2y l E m q=((b1K l E m b0v (b0A l b0u q)).1,b0A l b0v (b1K l E m b0v (b0A l b0u q)).2)):=Hi_ rfl;have HR:=Hi_ hr;clear hr hfu ih hf h;go_enter Tryz.func146,Tryz.ntmps146;go_wp2_with fail
  refine(HND.out _ q ⟨#[123]⟩ hb hq HR.out).mono ?_;rintro r w1 ⟨⟨v1,rfl⟩,hr1,hg1⟩;have HG:=Hi_ hg1;replace HR:Hid (Rd w1 g lv (b0A l b0u q).1 E (b0A l b0u q).2):=Hi_ hr1;clear hr1 hg1;generalize b0A l b0u q=q1 at *;go_wp2_with fail
  refine(HCS.out _ (b0U hb hg HG.out) HR.out).mono ?_;rintro r w2 ⟨hg2,hr2,v2,rfl,hsl2⟩;have HSL:=Hi_ (b0I (B':=W.heap.size) b0h HG.out.size hsl2);replace HG:=Hi_ (HG.out.trans hg2);have HR:=Hi_ hr2;clear hg2 hr2 hsl2 HCS;generalize b1K l E m b0v q1=x2 at *;obtain⟨xs,q2⟩:=x2;dsimp only at *;obtain⟨A2,c2,rfl,-⟩:=id HSL.out;go_wp2_with fail
  refine(HND.out _ q2 ⟨#[125]⟩ (b0U hb hg HG.out) hq2 HR.out).mono ?_;rintro r w3 ⟨⟨v3,rfl⟩,hr3,hg3⟩;have HSL3:=Hi_ (HSL.out.keep (b0M hg3 hgl));replace HG:=Hi_ (HG.out.trans hg3);have HR:Hid (Rd w3 g lv (b0A l b0v q2).1 E (b0A l b0v q2).2):=Hi_ hr3;clear hr3 hg3;go_wp2;go_ret;exact .mk HX.out.symm HG.out HR.out HSL3.out
theorem b7y{P:Program}{ρ:Operand→Value}{o:Oper}{w:World}(ty:TypeId)(ho:o.op=.alloc ty){i:TypeInfo}(hi:P.info? ty=some i){z:Value}(hz:i.zero=some z) :
  (execOp ρ o).run P w=.ok (.value (.pointer (some ⟨w.heap.size,0,none⟩))) (w.alloc (.cells z.cells ty)):=by
 unfold execOp;simp[ho,Instr.alloc,zeroValue,typeInfo,hi,hz,newVar,newRow,Sem.run_bind]
theorem b7e{P:Program}{ops:Array Oper}{rest:List Oper}{o1 o2 o3:Oper}{a:Act}{w:World}{Q:Exit→Act→World→Prop}(ty:TypeId)(x y z:Operand)(hg1:o1.guard=none)(hg2:o2.guard=none)(hg3:o3.guard=none)
  (ho1:o1.op=.load ty x) (ho2:o2.op=.alloc ty) (ho3:o3.op=.store ty y z) (b o:Nat) (hx:a.eval x=.pointer (some ⟨b,o,none⟩)) (cs:List Value) (hc:b0x w b o cs)
  {t:TypeId} {size bytes:Nat} (E:Elem P t ty size bytes) (d:TypeDesc) (hu:P.underlying ty=some d) (hd:d.isRow=true) (hl:cs.length=size) (hone:∀u∈cs,u.oneCell'=true)
  (hy:((a.put o1.dst (.agg cs.toArray)).put o2.dst (.pointer (some ⟨w.heap.size,0,none⟩))).eval y=.pointer (some ⟨w.heap.size,0,none⟩))
  (hz:((a.put o1.dst (.agg cs.toArray)).put o2.dst (.pointer (some ⟨w.heap.size,0,none⟩))).eval z=.agg cs.toArray)
  (h:wpList P ops Q rest (((a.put o1.dst (.agg cs.toArray)).put o2.dst (.pointer (some ⟨w.heap.size,0,none⟩))).put o3.dst undef) (w.alloc (.cells cs.toArray ty))):wpList P ops Q (o1::o2::o3::rest) a w:=by
 obtain⟨i,zv,hi,hz0,hz1,hz2,hz3⟩:=E.inf;refine wpList_load_mid hg1 ty x ho1 b o hx cs d hc hu hd (by rw[hi,Option.map_some,hz1,hl]) ?_;refine Great.wpList_runTo hg2 o2.dst rfl _ _ (b7y ty ho2 hi hz0) ?_;refine wpList_store_row hg3 ty y z ho3 w.heap.size cs.toArray hy hz ty zv.cells (heap_alloc_last _ _) (by rw[hi,Option.map_some,hz1];simp[hl]) (by simp[hz3,hl]) (all_oneCell_toArray hone) ?_;rw[World.setRow_alloc_new];exact h
theorem c4R{o:Option TypeDesc}(h:o.map (·.isRow)=some true):∃d,o=some d∧d.isRow=true:=by
 cases o with
 | none=>cases h
 | some d=>exact⟨d,rfl,by simpa using h⟩
theorem c8q:∃d,Tryz.prog.underlying 53=some d∧d.isRow=true:=c4R (by kernel_rfl)
theorem c8r:∃d,Tryz.prog.underlying 51=some d∧d.isRow=true:=c4R (by kernel_rfl)
theorem c0o{ops:Array Oper}{rest:List Oper}{o1 o2 o3:Oper}{a:Act}{w:World}{Q:Exit→Act→World→Prop}(x y z:Operand)(hg1:o1.guard=none)(hg2:o2.guard=none)(hg3:o3.guard=none)
  (ho1:o1.op=.load 53 x) (ho2:o2.op=.alloc 53) (ho3:o3.op=.store 53 y z) (b o:Nat) (hx:a.eval x=.pointer (some ⟨b,o,none⟩)) (cs:List Value) (hc:b0x w b o cs) {c:TC} (hr:TCR w c cs)
  (hy:((a.put o1.dst (.agg cs.toArray)).put o2.dst (.pointer (some ⟨w.heap.size,0,none⟩))).eval y=.pointer (some ⟨w.heap.size,0,none⟩))
  (hz:((a.put o1.dst (.agg cs.toArray)).put o2.dst (.pointer (some ⟨w.heap.size,0,none⟩))).eval z=.agg cs.toArray)
  (h:wpList Tryz.prog ops Q rest (((a.put o1.dst (.agg cs.toArray)).put o2.dst (.pointer (some ⟨w.heap.size,0,none⟩))).put o3.dst undef) (w.alloc (.cells cs.toArray 53))):wpList Tryz.prog ops Q (o1::o2::o3::rest) a w:=by
 obtain⟨d,hu,hd⟩:=c8q;exact b7e _ x y z hg1 hg2 hg3 ho1 ho2 ho3 b o hx cs hc b8g d hu hd (tcR.len hr) (b4d hr) hy hz h
theorem Sl.lies{α:Type}{r:Rep α}{w:World}{A:Option Addr}{n c:Nat}{xs:List α}(h:Sl r w (.slice A n c) xs)(hp:0<xs.length):∃b o,A=some ⟨b,o,none⟩∧∀k x,xs[k]? = some x→r.At w b (o+k*r.size) x:=by
 obtain⟨A',c',hv,-,-,h4⟩:=h;injection hv with hv;subst hv;exact h4 hp
theorem c7w{w:World}{A:Option Addr}{n c:Nat}{xs:List TC}(h:Sl tcR w (.slice A n c) xs){k:Nat}{x:TC}(hk:xs[k]? = some x) :
  ∃b o cs,A=some ⟨b,o,none⟩∧TCR w x cs∧b0x w b (o+k*17) cs:=by
 obtain⟨A',c',hv,-,-,h4⟩:=h;injection hv with hv;subst hv;obtain⟨b,o,rfl,h5⟩:=h4 (by have:=(List.getElem?_eq_some_iff.1 hk).1;omega);obtain⟨cs,h6,h7⟩:=h5 k x hk;exact⟨b,o,cs,rfl,h6,h7⟩
theorem b4M{w:World}{x:TC}{cs:List Value}(h:TCR w x cs):∃vi ve va vt vs,cs=[.int .i64 x.kind,.int .i64 x.at_,.string x.name,.string x.other,.int .i64 x.index.kind,.int .i64 x.index.at_,.int .i64 x.index.n,.string x.index.name,vi,.int .i64 x.expr.kind,.int .i64 x.expr.at_,.int .i64 x.expr.n,.string x.expr.name,ve,va,vt,vs] ∧
  x.name.size≤maxLen∧x.other.size≤maxLen∧x.index.name.size≤maxLen∧x.expr.name.size≤maxLen∧Sl teR w vi x.index.args∧Sl teR w ve x.expr.args∧Sl teR w va x.args∧Sl tcR w vt x.thn∧Sl tcR w vs x.els:=by
 obtain⟨k,a,s,t,i,e,args,thn,els⟩:=x;exact TCR.opened h
end Go.Proofs.YtmfjlcpjemccmaaGreatDoor
