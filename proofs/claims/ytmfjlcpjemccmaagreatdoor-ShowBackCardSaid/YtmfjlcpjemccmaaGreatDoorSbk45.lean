/- The program's becomes: a call, and all cases: walked. Each lemma states its own conditions. -/
import Derived.Test.YtmfjlcpjemccmaaGreatDoorSbk44
namespace Go.Proofs.YtmfjlcpjemccmaaGreatDoor
set_option maxRecDepth 20000
set_option maxHeartbeats 4000000
open Go.RowKit
theorem c1G{α:Type}{l:List Tok}{step:Nat→α×RS}(hs:∀k,k≤l.length→(step k).2.1≤l.length):∀n k,k≤l.length→(b3d l step n k).2.1≤l.length
 | 0,k,h=>h
 | n+1,k,h=>by
  by_cases h1:tx l k false=b0e
  ·have hlt:=b3E (l:=l) (p:=k) (f:=false) (by rw[h1];decide);cases h2:(step (k+1)).2.2 with
   | true=>rw[b5a h1 h2];exact hs _ hlt
   | false=>rw[b6h h1 h2];exact c1G hs n _ (hs _ hlt)
  ·rw[b3R h1];exact h
theorem c1C{α:Type}{l:List Tok}{e:ByteArray}{step:Nat→α×RS}(hs:∀k,k≤l.length→(step k).2.1≤l.length)(n p:Nat)(h:p≤l.length):(b4Y l e step n p).2.1≤l.length:=by
 unfold b4Y;split
 ·exact h
 ·split
  ·exact hs _ h
  ·exact c1G hs n _ (hs _ h)
theorem c6C{l:List Tok}{E:Nat}(hok:∀t∈l,b0r t)(p:Nat)(h:p≤l.length):(b4Y l b0Y (fun k=>b0K l E 60 (k,false)) (l.length+1) p).2.1≤l.length:=c1C (fun k hk=>b1L (E:=E) hok 60 (k,false) hk) _ _ h
theorem c1d(args:Array Value)(w:World):(callFunc 219 args).run Tryz.prog w=.ok (.enter 219 args) w:=enters_of Tryz.func219 (by kernel_rfl) rfl args w
theorem c4f(l:List Tok)(lv:Value)(E g Q:Nat)(A0:Int)(p:Nat)(w0 w:World)(hl:Sl b1V w0 lv l)(hn:l.length≤6000)(hok:∀t∈l,b0r t)(hm:∀t∈l,t.text.size≤maxLen)(hg:w0.heap.size≤g)(hQ:w0.heap.size≤Q)(hne:g≠Q)(_hp:p≤l.length)(h0:Bel w0 w)(h:Ps w g lv p E)(hq:Blk w Q 53 (zQ1 (.int .i64 A0)))
  (hi:b0H (tx l p false)=true) (h4:tx l (p+1) false≠b1o) (h5:tx l (p+1) false=eqB) (h6:tx l (p+1+1) false≠b2P) (h7:b0H (tx l (p+1+1) false)=true) (h8:tx l (p+1+1+1) false=b0T) :
  Calls Tryz.prog 210 #[.pointer (some ⟨g,0,none⟩),.pointer (some ⟨Q,0,none⟩)] w fun r w'=>b4P w g lv l E Q (b6W l E A0 (p,false)) r w':=by
 have HNM:=Hi_ (kNM (E:=E) (g:=g) hl hn hm);have HTN:=Hi_ (kTN (E:=E) (g:=g) hl hn);have HTY:=Hi_ (kTY (E:=E) (g:=g) hl hn);have HSE:=Hi_ (kSE (E:=E) (g:=g) hl hn);have HNA:=Hi_ (kNA (E:=E) hl hn hm hg);have HEX:=Hi_ (kEX (E:=E) hl hn hok hm hg);have HND:=Hi_ (kND (E:=E) hl hn hg);have HBH:=Hi_ (kBH (E:=E) (g:=g) hl hn);have HEQ:=Hi_ (c2u (E:=E) (A0:=A0) hi h4 h5 h6 h7 h8);have HN:=Hi_ (b0j hi);have hns:=b1w (l:=l) (p:=p) (f:=false) hm;have H4:=Hi_ h4;have H5:=Hi_ (b0G h5);have H6:=Hi_ h6;have H7:=Hi_ h7;have HN7:=Hi_ (b0j h7);have hno:=b1w (l:=l) (p:=p+1+1) (f:=false) hm;have H8:=Hi_ (b0G h8);have e40:((tx l (p+1+1+1) false).toList==[40])=true:=b0g h8;have hlt:=b3E (l:=l) (p:=p+1) (f:=false) (by rw[h5];decide);have hlt4:=b3E (l:=l) (p:=p+1+1+1) (f:=false) (by rw[h8];decide);have HLS:=Hi_ (c2t (E:=E) hok (p+1+1+1+1) hlt4);have hlle:=c6C (E:=E) hok (p+1+1+1+1) hlt4
 have HLI:=Hi_ (fun W (h:c4U w g lv E Q w.heap.size (w.heap.size+1) A0 (tx l p false) (tx l (p+1+1) false) W [] (p+1+1+1+1))=>c1D l lv E g (p+1+1+1+1) b0Y (by decide) 219 c1d #[.pointer (some ⟨w.heap.size,0,none⟩),.pointer (some ⟨w.heap.size+1,0,none⟩)] (fun k=>b0K l E 60 (k,false)) (c4U w g lv E Q w.heap.size (w.heap.size+1) A0 (tx l p false) (tx l (p+1+1) false)) (fun W'=>G2 w W' g Q) w0 W hl hn hlt4
  (fun _ _ _ h=>h.ps h0 hg hQ) (fun _ _ _ _ h hb=>h.keep hb) (fun _ _ _ _ h hg hp=>h.at_ hg hp) (fun W xs k hk h=>c4c l lv E g Q _ _ k A0 _ _ w0 w W hl hn hok hm hg hQ h0 xs hk h) (fun k hk=>⟨b1L (E:=E) hok 60 (k,false) hk,b2f (E:=E) 60 (k,false)⟩) h)
 clear hi h4 h5 h6 h7 h8;have hgl:=h.lt;have hql:=hq.lt;have HS:=Hi_ (Bec.start h hq hne);clear h hq;go_enter Tryz.func210,Tryz.ntmps210;go_upto_region 1 with fail;have hba:=((Bel.rfl_ w).al (.cells #[.pointer (some ⟨g,0,none⟩)] 86)).al (.cells #[.pointer (some ⟨Q,0,none⟩)] 228)
 have HX:=Hi_ (show b3h w.heap.size (w.heap.size+1) g Q _ from⟨(Blk.new w 86 #[.pointer (some ⟨g,0,none⟩)]).keep ((Bel.rfl_ _).al (.cells #[.pointer (some ⟨Q,0,none⟩)] 228)),by
  have:=Blk.new (w.alloc (.cells #[.pointer (some ⟨g,0,none⟩)] 86)) 228 #[.pointer (some ⟨Q,0,none⟩)]
  rwa [World.size_alloc] at this⟩)
 replace HS:=Hi_ (HS.out.keep hba).fresh;clear hba;generalize(w.alloc (.cells #[.pointer (some ⟨g,0,none⟩)] 86)).alloc (.cells #[.pointer (some ⟨Q,0,none⟩)] 228)=W0 at *;go_upto_region 1 with fail;refine wp_region_held_drew (S:=b3h w.heap.size (w.heap.size+1) g Q) (by kernel_rfl) (HX.out.keep ((Bel.rfl_ _).dr)) (fun hS=>?_);replace HS:=Hi_ (HS.out.keep ((Bel.rfl_ _).dr));clear HX;refine b0F (i:=0) (some 4) _ rfl hS (fun V h=>b5J rfl (by kernel_rfl) (h.2.cell (i:=0) (v:=.pointer (some ⟨Q,0,none⟩)) rfl)) ?_;refine b0F (i:=1) (some 5) _ rfl hS (fun V h=>b6U rfl (by kernel_rfl) (h.1.cell (i:=0) (v:=.pointer (some ⟨g,0,none⟩)) rfl)) ?_;refine b2W (i:=2) (some 6) (by kernel_rfl) rfl rfl (by kernel_rfl) 181 #[.pointer (some ⟨g,0,none⟩)] (by kernel_rfl) (HNA.out _ p (HS.out.bel h0 hg hQ) HS.out.1) ?_;rintro r wv1 hres;rw[HN.out] at hres;dsimp only at hres;obtain⟨hgn,hpn,rfl⟩:=hres.good rfl;replace HS:=Hi_ (HS.out.grown hgn hpn);replace hS:=hS.g2 ((G2.refl _ _ _).par hgn) (by omega) (by omega);clear hgn hpn hres;refine Or.inl ⟨_,rfl,hS,fun hS=>?_⟩;refine b0F (i:=3) (some 7) (.pointer (some ⟨Q,0,none⟩)) rfl hS (fun _ _=>by kernel_rfl) ?_;refine b0F (i:=4) (some 8) (.pointer (some ⟨Q,2,none⟩)) rfl hS (fun _ _=>by kernel_rfl) ?_;have c2:=HS.out.cell 2 (v:=.string ⟨#[]⟩) rfl;refine b5K (i:=5) none (by kernel_rfl) rfl rfl (by kernel_rfl) _ (b7V (b:=Q) (f:=2) (s:=tx l p false) rfl (by kernel_rfl) (by kernel_rfl) c2 (HS.out.frozen 2)) (b3h.set_ hS (by omega) (by omega) _ _) (fun hS=>?_);have HX:=Hi_ hS;clear hS c2;refine wpAnyH_done (by kernel_rfl) ?_ _;try simp only[Act.put,lA,lB,lC]
 replace HS:=Hi_ ((HS.out.put 2 (.string (tx l p false))).to (cs':=(zQ6 (.int .i64 A0) (.string (tx l p false)))) rfl);generalize World.setCell _ _ _=wv2 at *;have p0:=HX.out.1.cell (i:=0) (v:=.pointer (some ⟨g,0,none⟩)) rfl;go_wp2_with fail
 refine(HTN.out _ (p+1) b1o (by decide) H4.out (HS.out.bel h0 hg hQ) HS.out.1).mono ?_;rintro r wv3 ⟨rfl,hb⟩;clear p0;replace HS:=Hi_ (HS.out.keep hb);replace HX:=Hi_ (HX.out.keep hb);clear hb;have p0:=HX.out.1.cell (i:=0) (v:=.pointer (some ⟨g,0,none⟩)) rfl;have hgq:wv3.heap.size≠g:=by have:=HS.out.lt;have:=HS.out.size;omega
 have hba:=(Bel.rfl_ wv3).al (.cells #[.string ⟨#[61]⟩] 9);replace HS:=Hi_ (HS.out.keep hba);replace HX:=Hi_ (HX.out.keep hba);go_wp2_with fail
 refine(HND.out _ (p+1) wv3.heap.size [eqB] (HS.out.bel h0 hg hQ) HS.out.1 (by decide) (by decide) (Blk.new wv3 _ _) hgq).mono ?_;rintro r wv4 hres;clear p0;clear hba hgq;rw[show b1M l [eqB] ((p+1),false)=(p+1+1,false) from H5.out] at hres;obtain⟨hgn,hpn,rfl⟩:=hres.good rfl;replace HS:=Hi_ (HS.out.grown hgn hpn);replace HX:=Hi_ (HX.out.g2 ((G2.refl _ _ _).par hgn) (by omega) (by omega));clear hgn hpn hres;have p0:=HX.out.1.cell (i:=0) (v:=.pointer (some ⟨g,0,none⟩)) rfl;go_wp2_with fail
 refine(HTN.out _ (p+1+1) b2P (by decide) H6.out (HS.out.bel h0 hg hQ) HS.out.1).mono ?_;rintro r wv5 ⟨rfl,hb⟩;clear p0;replace HS:=Hi_ (HS.out.keep hb);replace HX:=Hi_ (HX.out.keep hb);clear hb;have p0:=HX.out.1.cell (i:=0) (v:=.pointer (some ⟨g,0,none⟩)) rfl;go_wp2_with fail
 refine(HNM.out _ (p+1+1) true H7.out (HS.out.bel h0 hg hQ) HS.out.1).mono ?_;rintro r wv6 ⟨rfl,hb⟩;clear p0;replace HS:=Hi_ (HS.out.keep hb);replace HX:=Hi_ (HX.out.keep hb);clear hb;have p0:=HX.out.1.cell (i:=0) (v:=.pointer (some ⟨g,0,none⟩)) rfl;go_wp2_with fail
 refine(HBH.out _ (p+1+1) hlt (HS.out.bel h0 hg hQ) HS.out.1).mono ?_;rintro r wv7 ⟨rfl,hb⟩;clear p0;replace HS:=Hi_ (HS.out.keep hb);replace HX:=Hi_ (HX.out.keep hb);clear hb;have p0:=HX.out.1.cell (i:=0) (v:=.pointer (some ⟨g,0,none⟩)) rfl;have c0:=HS.out.cell 0 (v:=.int .i64 0) rfl;have g0:=HS.out.frozen 0;have x0:=HX.out.2.cell (i:=0) (v:=.pointer (some ⟨Q,0,none⟩)) rfl;go_upto_region 14 with fail;replace HS:=Hi_ ((HS.out.put 0 (.int .i64 3)).to (cs':=(zQ2 (.int .i64 3) (.int .i64 A0) (.string (tx l p false)))) rfl);replace HX:=Hi_ (HX.out.set_ (by omega) (by omega) 0 (.int .i64 3));generalize World.setCell _ _ _=wv8 at *;clear p0 x0 c0 g0;go_upto_region 14 with fail;refine wp_region_held_drew (S:=b3h w.heap.size (w.heap.size+1) g Q) (by kernel_rfl) (HX.out.keep ((Bel.rfl_ _).dr)) (fun hS=>?_);replace HS:=Hi_ (HS.out.keep ((Bel.rfl_ _).dr));clear HX;refine b0F (i:=0) (some 55) _ rfl hS (fun V h=>b5J rfl (by kernel_rfl) (h.2.cell (i:=0) (v:=.pointer (some ⟨Q,0,none⟩)) rfl)) ?_;refine b0F (i:=1) (some 56) _ rfl hS (fun V h=>b6U rfl (by kernel_rfl) (h.1.cell (i:=0) (v:=.pointer (some ⟨g,0,none⟩)) rfl)) ?_;refine b2W (i:=2) (some 57) (by kernel_rfl) rfl rfl (by kernel_rfl) 181 #[.pointer (some ⟨g,0,none⟩)] (by kernel_rfl) (HNA.out _ (p+1+1) (HS.out.bel h0 hg hQ) HS.out.1) ?_;rintro r wv9 hres;rw[HN7.out] at hres;dsimp only at hres;obtain⟨hgn,hpn,rfl⟩:=hres.good rfl;replace HS:=Hi_ (HS.out.grown hgn hpn);replace hS:=hS.g2 ((G2.refl _ _ _).par hgn) (by omega) (by omega);clear hgn hpn hres;refine Or.inl ⟨_,rfl,hS,fun hS=>?_⟩;refine b0F (i:=3) (some 58) (.pointer (some ⟨Q,0,none⟩)) rfl hS (fun _ _=>by kernel_rfl) ?_;refine b0F (i:=4) (some 59) (.pointer (some ⟨Q,3,none⟩)) rfl hS (fun _ _=>by kernel_rfl) ?_;have c3:=HS.out.cell 3 (v:=.string ⟨#[]⟩) rfl;refine b5K (i:=5) none (by kernel_rfl) rfl rfl (by kernel_rfl) _ (b7V (b:=Q) (f:=3) (s:=tx l (p+1+1) false) rfl (by kernel_rfl) (by kernel_rfl) c3 (HS.out.frozen 3)) (b3h.set_ hS (by omega) (by omega) _ _) (fun hS=>?_)
 have HX:=Hi_ hS;clear hS c3;refine wpAnyH_done (by kernel_rfl) ?_ _;try simp only[Act.put,lA,lB,lC]
 replace HS:=Hi_ ((HS.out.put 3 (.string (tx l (p+1+1) false))).to (cs':=(c9D (.int .i64 3) (.int .i64 A0) (.string (tx l p false)) (.string (tx l (p+1+1) false)))) rfl);generalize World.setCell _ _ _=wv10 at *;have p0:=HX.out.1.cell (i:=0) (v:=.pointer (some ⟨g,0,none⟩)) rfl;have hgq:wv10.heap.size≠g:=by have:=HS.out.lt;have:=HS.out.size;omega
 have hba:=(Bel.rfl_ wv10).al (.cells #[.string ⟨#[40]⟩] 9);replace HS:=Hi_ (HS.out.keep hba);replace HX:=Hi_ (HX.out.keep hba);go_wp2_with fail
 refine(HND.out _ (p+1+1+1) wv10.heap.size [b0T] (HS.out.bel h0 hg hQ) HS.out.1 (by decide) (by decide) (Blk.new wv10 _ _) hgq).mono ?_;rintro r wv11 hres;clear p0;clear hba hgq;rw[show b1M l [b0T] ((p+1+1+1),false)=(p+1+1+1+1,false) from H8.out] at hres;obtain⟨hgn,hpn,rfl⟩:=hres.good rfl;replace HS:=Hi_ (HS.out.grown hgn hpn);replace HX:=Hi_ (HX.out.g2 ((G2.refl _ _ _).par hgn) (by omega) (by omega));clear hgn hpn hres;replace HS:=Hi_ HS.out.fresh;have p0:=HX.out.1.cell (i:=0) (v:=.pointer (some ⟨g,0,none⟩)) rfl;have HI:=Hi_ (show c4U w g lv E Q w.heap.size (w.heap.size+1) A0 (tx l p false) (tx l (p+1+1) false) wv11 [] (p+1+1+1+1) from⟨.slice none 0 0,HS.out,b6Q.nil _ _ _ _,HX.out.1,HX.out.2,Nat.le_refl _,Nat.lt_succ_self _,Nat.zero_le _⟩);generalize b4Y l b0Y (fun k=>b0K l E 60 (k,false)) (l.length+1) (p+1+1+1+1)=y at *;go_wp2_with fail
 refine(HLI.out _ HI.out).mono ?_;rintro r w3 ⟨hb1,hb2⟩;clear HS HX HI HLI;obtain⟨ys,qy,fy⟩:=y;dsimp only at *;cases fy with
 | true =>
  obtain⟨rfl,hg2⟩:=hb1 rfl;have HG:=Hi_ hg2;have HST:=Hi_ (HLS.out.1 rfl);clear hb1 hb2 hg2;go_wp2;exact⟨rfl,.mkBad (by rw[HEQ.out,HST.out];dsimp only;exact b0a) HG.out⟩
 | false =>
 obtain⟨rfl,v,hs,ho,hbp,hbx,-⟩:=hb2 rfl;have HST:=Hi_ (HLS.out.2 rfl);have HS:=Hi_ hs;have HX:=Hi_ (show b3h w.heap.size (w.heap.size+1) g Q w3 from⟨hbp,hbx⟩);have HA:=Hi_ (b0I (B':=w.heap.size) b0J (by omega) (ho.sl b0J));obtain⟨va,vc,rfl⟩:=ho.slice;clear hb1 hb2 hs ho hbp hbx p0;replace HS:=Hi_ (HS.out.to (cs':=(zQ3 (.int .i64 3) (.int .i64 A0) (.string (tx l p false)) (.string (tx l (p+1+1) false)) (.slice va ys.length vc))) rfl);have p0:=HX.out.1.cell (i:=0) (v:=.pointer (some ⟨g,0,none⟩)) rfl;rw[HST.out.1] at HEQ;have hqy:qy≤l.length:=hlle;have hgq:w3.heap.size≠g:=by have:=HS.out.lt;have:=HS.out.size;omega
 have hba:=(Bel.rfl_ w3).al (.cells #[.string ⟨#[41]⟩] 9);replace HS:=Hi_ (HS.out.keep hba);replace HX:=Hi_ (HX.out.keep hba);go_wp2_with fail
 refine(HND.out _ qy w3.heap.size [b0Y] (HS.out.bel h0 hg hQ) HS.out.1 (by decide) (by decide) (Blk.new w3 _ _) hgq).mono ?_;rintro r wv12 hres;clear p0;clear hba hgq;rw[show b1M l [b0Y] (qy,false)=b0A l b0Y (qy,false) from rfl] at hres;have HST2:=Hi_ HST.out.2;clear HST HLS;generalize b0A l b0Y (qy,false)=st at *;obtain⟨qn,fs⟩:=st;cases fs with
 | true =>
  obtain⟨hgn,rfl⟩:=hres.bad rfl;have HG:=Hi_ (HS.out.grew.par hgn);clear hgn hres;go_wp2;exact⟨rfl,.mkBad (by rw[HEQ.out]) HG.out⟩
 | false =>
 obtain⟨hgn,hpn,rfl⟩:=hres.good rfl;have HAE:=Hi_ (HST2.out rfl);replace HS:=Hi_ (HS.out.grown hgn hpn);replace HX:=Hi_ (HX.out.g2 ((G2.refl _ _ _).par hgn) (by omega) (by omega));clear hgn hpn hres;rw[show(b2l l E (l.length+1) 0 (p+1+1+1+1,false)).1=ys from HAE.out] at HEQ;go_wp2;have hl0:=HS.out.lt;exact bodyPost_end (v:=.tuple #[]) (results_none rfl _ _ _) rfl (.mkGood HEQ.out HS.out (TCR.shut hns hno (Nat.zero_le _) (Nat.zero_le _) (Sl.nil_ _ _) (Sl.nil_ _ _) (HA.out.keep HS.out.low_) (Sl.nil_ _ _) (Sl.nil_ _ _)))
theorem c6D(l:List Tok)(lv:Value)(E g Q:Nat)(A0:Int)(p:Nat)(w0 w:World)(hl:Sl b1V w0 lv l)(hn:l.length≤6000)(hok:∀t∈l,b0r t)(hm:∀t∈l,t.text.size≤maxLen)(hg:w0.heap.size≤g)(hQ:w0.heap.size≤Q)(hne:g≠Q)(hp:p≤l.length)(h0:Bel w0 w)(h:Ps w g lv p E)(hq:Blk w Q 53 (zQ1 (.int .i64 A0))) :
  Calls Tryz.prog 210 #[.pointer (some ⟨g,0,none⟩),.pointer (some ⟨Q,0,none⟩)] w fun r w'=>b4P w g lv l E Q (b6W l E A0 (p,false)) r w':=by
 cases hi:b0H (tx l p false) with
 | false=>exact c4g l lv E g Q A0 p w0 w hl hn hok hm hg hQ hne hp h0 h hq hi
 | true =>
  by_cases h4:tx l (p+1) false=b1o
  ·exact c6F l lv E g Q A0 p w0 w hl hn hok hm hg hQ hne hp h0 h hq hi h4
  by_cases h5:tx l (p+1) false=eqB
  ·by_cases h6:tx l (p+1+1) false=b2P
   ·exact c4h l lv E g Q A0 p w0 w hl hn hok hm hg hQ hne hp h0 h hq hi h4 h5 h6
   cases h7:b0H (tx l (p+1+1) false) with
   | false=>exact c4i l lv E g Q A0 p w0 w hl hn hok hm hg hQ hne hp h0 h hq hi h4 h5 h6 h7
   | true =>
    by_cases h8:tx l (p+1+1+1) false=b0T
    ·exact c4f l lv E g Q A0 p w0 w hl hn hok hm hg hQ hne hp h0 h hq hi h4 h5 h6 h7 h8
    ·exact c4j l lv E g Q A0 p w0 w hl hn hok hm hg hQ hne hp h0 h hq hi h4 h5 h6 h7 h8
  ·exact c6E l lv E g Q A0 p w0 w hl hn hok hm hg hQ hne hp h0 h hq hi h4 h5
end Go.Proofs.YtmfjlcpjemccmaaGreatDoor
