/- The program's token at a place. Each lemma states its own conditions. -/
import Derived.Test.YtmfjlcpjemccmaaGreatDoorSbk28
import Derived.Test.YtmfjlcpjemccmaaGreatDoorSbk06
import Derived.Laws.ResultCell
namespace Go.Proofs.YtmfjlcpjemccmaaGreatDoor
set_option maxRecDepth 20000
set_option maxHeartbeats 1000000
open Go.RowKit
def c6A(s:ByteArray)(p g:Nat)(w:World)(r:Ending)(w':World):Prop:=∃(t:Tok) (q:Nat),r=.returned (.tuple #[.agg #[.int .i64 t.kind,.int .i64 t.at_,.string t.text],.int .i64 (b1I s p)])∧t.at_=p ∧
 (b1I s p=0→t=b1f s p∧q=p+(b0X s p).2)∧q≤s.size∧Sc w' g s q∧w.grownBy w' (some g)
theorem c6A.mk{s:ByteArray}{p g:Nat}{w w':World}{k e:Int}{x:ByteArray}{q H K:Nat}{ra rb rc a b c:Value}(he:b1I s p=e)(ht:e=0→(⟨k,p,x⟩:Tok)=b1f s p∧q=p+(b0X s p).2)(hq:q≤s.size)(h:TS w w' g s q H K ra rb rc a b c) :
  c6A s p g w (.returned (.tuple #[.agg #[.int .i64 k,.int .i64 p,.string x],.int .i64 e])) w':=
 ⟨⟨k,p,x⟩,q,by rw[he],rfl,by rw[he];exact ht,hq,h.sc,h.gr⟩
section
variable {w0 w:World}{g:Nat}{s:ByteArray}{p H K:Nat}{ra rb rc a b c:Value}
theorem c6P{b:Nat}(h:isS b=true):b<128:=by
 have hm:b∈c2V:=by simpa[isS] using h
 simp only[c2V,List.mem_cons,List.not_mem_nil,or_false] at hm;omega
theorem c7C(x:UInt8)(h:x.toNat<128):Utf8.encode (x.toNat:Int)=⟨#[x]⟩:=by
 have hv:Utf8.valid (x.toNat:Int)=true:=by unfold Utf8.valid;simp;omega
 have h2:(x.toNat:Int).toNat=x.toNat:=by simp
 unfold Utf8.encode;simp only[hv,if_true,h2];rw[if_pos h];simp
theorem TS.atT(h:TS w0 w g s p H K ra rb rc a b c):w.cell? ⟨K,0,none⟩=some a∧w.cell? ⟨K,1,none⟩=some b∧w.cell? ⟨K,2,none⟩=some c∧w.frozen? ⟨K,0,none⟩=false∧w.frozen? ⟨K,1,none⟩=false∧w.frozen? ⟨K,2,none⟩=false:=
 ⟨h.t.cell rfl,h.t.cell rfl,h.t.cell rfl,h.t.frozen 0,h.t.frozen 1,h.t.frozen 2⟩
theorem TS.atR(h:TS w0 w g s p H K ra rb rc a b c):w.cell? ⟨H,0,none⟩=some ra∧w.cell? ⟨H,1,none⟩=some rb∧w.cell? ⟨H,2,none⟩=some rc∧w.frozen? ⟨H,0,none⟩=false∧w.frozen? ⟨H,1,none⟩=false∧w.frozen? ⟨H,2,none⟩=false:=
 ⟨h.r.cell rfl,h.r.cell rfl,h.r.cell rfl,h.r.frozen 0,h.r.frozen 1,h.r.frozen 2⟩
end
theorem c2f(s:ByteArray)(p g:Nat)(w:World)(hs:s.size≤6000)(hp:p<s.size)(h:Sc w g s p)(hL:isL s[p].toNat=true) :
  Calls Tryz.prog 62 #[.pointer (some ⟨g,0,none⟩)] w fun r w'=>c6A s p g w r w':=by
 have hrn:∃n,b1F b3v s p=p+n∧p+n≤s.size∧b0X s p=(1,n):=by
  have h1:=b4r b3v s p;have h2:=b4s b3v s (i:=p) (by omega);refine⟨b1F b3v s p-p,by omega,by omega,?_⟩;rw[b1j,b2N hp,if_pos hL,b6n (i:=p) hp (by unfold b3v;rw[hL];rfl)]
 obtain⟨n,hrn,hns,hta⟩:=hrn;have HTA:=Hi_ hta;have HTE:=b2C s p;rw[hta] at HTE;have HE2:Hid (12<n→b1I s p=2):=Hi_ (fun h=>by rw[HTE,if_neg (by simp),if_pos (.inl ⟨rfl,h⟩)]);have HE0:Hid (¬12<n→b1I s p=0):=Hi_ (fun h=>by rw[HTE,if_neg (by simp),if_neg (by simp;omega),if_neg (by simp)]);clear hta HTE;have hxs:(s.extract p (p+n)).size=n:=by rw[b1r hns];omega
 have HX:Hid ((⟨1,p,s.extract p (p+n)⟩:Tok)=b1f s p∧p+n=p+(b0X s p).2):=Hi_ (by unfold b1f;rw[HTA.out];exact⟨rfl,rfl⟩);have HRN:=Hi_ (fun W (h:Sc W g s p)=>c4D s p g W hs (by omega) h);rw[hrn] at HRN;clear hrn HTA
 have hts:Hid (TS w ((w.alloc (.cells #[.int .i64 0,.int .i64 0,.string ⟨#[]⟩] 43)).alloc (.cells #[.int .i64 3,.int .i64 p,.string ⟨#[]⟩] 43)) g s p w.heap.size (w.heap.size+1) (.int .i64 0) (.int .i64 0) (.string ⟨#[]⟩) (.int .i64 3) (.int .i64 p) (.string ⟨#[]⟩)):=Hi_
  {sc:=(h.keep ((Bel.rfl_ w).al _)).keep ((Bel.rfl_ _).al _)
   r:=(Blk.new w _ _).keep ((Bel.rfl_ _).al _)
   t:=by have:=Blk.new (w.alloc (.cells #[.int .i64 0,.int .i64 0,.string ⟨#[]⟩] 43)) 43 #[.int .i64 3,.int .i64 p,.string ⟨#[]⟩];simpa using this
   gr:=b2S (b2S (World.grownBy.refl _ _) _) _
   hg:=Blk.lt h
   hH:=Nat.le_refl _
   hK:=by omega
   hHK:=by omega }
 have x1:=(h.keep ((Bel.rfl_ w).al (.cells #[.int .i64 0,.int .i64 0,.string ⟨#[]⟩] 43))).go.2.1;clear h;go_enter Tryz.func62,Tryz.ntmps62;go_wp2_with fail
 refine(b5l s p g _ hs hp hts.out.sc).mono ?_;rintro e w1 ⟨rfl,n1,hw1⟩;have HT1:=Hi_ (hts.out.drN n1);rw[←hw1] at HT1;clear hw1 x1 hts;generalize w.heap.size+1=K at HT1 ⊢;generalize w.heap.size=H at HT1 ⊢;obtain⟨t0,t1,t2,f0,f1,f2⟩:=HT1.out.atT;go_wp2_with (go_at_call 109;refine(b2r _ _).mono ?_;rintro e w' ⟨rfl,rfl⟩;rw[hL])
 refine(HRN.out _ (HT1.out.t0 _).sc).mono ?_;rintro e w2 ⟨rfl,hs2,hg2⟩;have HT2:=Hi_ ((HT1.out.t0 _).call hs2 hg2);generalize s.extract p (p+n)=X at hxs HX HT2 ⊢;clear hs2 hg2 t0 t1 t2 f0 f1 f2 HT1;obtain⟨t0,t1,t2,f0,f1,f2⟩:=HT2.out.atT;have HT3:=Hi_ (HT2.out.t2 (.string X));obtain⟨b0,b1,b2,e0,e1,e2⟩:=HT3.out.atT;obtain⟨r0,r1,r2,o0,o1,o2⟩:=HT3.out.atR;clear hL;by_cases h12:12<n
 ·have HE:=Hi_ (HE2.out h12);go_wp2;have HT4:=Hi_ ((((HT3.out).r0 (.int .i64 1)).r1 (.int .i64 p)).r2 (.string X));obtain⟨q0,q1,q2,_,_,_⟩:=HT4.out.atR
  (try simp only[Exit.inBlock,Exit.then])
  refine bodyPost_ret (v:=.tuple #[.agg #[.int .i64 1,.int .i64 p,.string X],.int .i64 2]) (by rw[results_cell_tmp rfl];go_simp) rfl ?_;exact c6A.mk HE.out (fun h=>absurd h (by decide)) hns HT4.out
 ·have HE:=Hi_ (HE0.out h12);go_wp2;have HT4:=Hi_ ((((HT3.out).r0 (.int .i64 1)).r1 (.int .i64 p)).r2 (.string X));obtain⟨q0,q1,q2,_,_,_⟩:=HT4.out.atR
  (try simp only[Exit.inBlock,Exit.then])
  refine bodyPost_ret (v:=.tuple #[.agg #[.int .i64 1,.int .i64 p,.string X],.int .i64 0]) (by rw[results_cell_tmp rfl];go_simp) rfl ?_;exact c6A.mk HE.out (fun _=>HX.out) hns HT4.out
theorem b9m(s:ByteArray)(p g:Nat)(w:World)(hs:s.size≤6000)(hp:p<s.size)(h:Sc w g s p)(hL:isL s[p].toNat=false)(hD:isD s[p].toNat=true) :
  Calls Tryz.prog 62 #[.pointer (some ⟨g,0,none⟩)] w fun r w'=>c6A s p g w r w':=by
 have hrn:∃n,b1F isD s p=p+n∧p+n≤s.size∧b0X s p=(2,n):=by
  have h1:=b4r isD s p;have h2:=b4s isD s (i:=p) (by omega);refine⟨b1F isD s p-p,by omega,by omega,?_⟩;rw[b1j,b2N hp,if_neg (by simp[hL]),if_pos hD,b6n (i:=p) hp hD]
 obtain⟨n,hrn,hns,hta⟩:=hrn;have HTA:=Hi_ hta;have HTE:=b2C s p;rw[hta] at HTE;have HE2:Hid (7<n→b1I s p=2):=Hi_ (fun h=>by rw[HTE,if_neg (by simp),if_pos (.inr ⟨rfl,h⟩)]);have HE1:Hid (¬7<n→1<n→s[p].toNat=48→b1I s p=1):=Hi_ (fun h h1 h2=>by rw[HTE,if_neg (by simp),if_neg (by simp;omega),if_pos ⟨rfl,h1,by rw[b2N hp];exact h2⟩]);have HE0:Hid (¬7<n→¬(1<n∧s[p].toNat=48)→b1I s p=0):=Hi_ (fun h h1=>by rw[HTE,if_neg (by simp),if_neg (by simp;omega),if_neg (by rw[b2N hp];exact fun h2=>h1 h2.2)]);clear hta HTE;have hxs:(s.extract p (p+n)).size=n:=by rw[b1r hns];omega
 have HX:Hid ((⟨2,p,s.extract p (p+n)⟩:Tok)=b1f s p∧p+n=p+(b0X s p).2):=Hi_ (by unfold b1f;rw[HTA.out];exact⟨rfl,rfl⟩);have HRN:=Hi_ (fun W (h:Sc W g s p)=>c5a s p g W hs (by omega) h);rw[hrn] at HRN;clear hrn HTA
 have hts:Hid (TS w ((w.alloc (.cells #[.int .i64 0,.int .i64 0,.string ⟨#[]⟩] 43)).alloc (.cells #[.int .i64 3,.int .i64 p,.string ⟨#[]⟩] 43)) g s p w.heap.size (w.heap.size+1) (.int .i64 0) (.int .i64 0) (.string ⟨#[]⟩) (.int .i64 3) (.int .i64 p) (.string ⟨#[]⟩)):=Hi_
  {sc:=(h.keep ((Bel.rfl_ w).al _)).keep ((Bel.rfl_ _).al _)
   r:=(Blk.new w _ _).keep ((Bel.rfl_ _).al _)
   t:=by have:=Blk.new (w.alloc (.cells #[.int .i64 0,.int .i64 0,.string ⟨#[]⟩] 43)) 43 #[.int .i64 3,.int .i64 p,.string ⟨#[]⟩];simpa using this
   gr:=b2S (b2S (World.grownBy.refl _ _) _) _
   hg:=Blk.lt h
   hH:=Nat.le_refl _
   hK:=by omega
   hHK:=by omega }
 have x1:=(h.keep ((Bel.rfl_ w).al (.cells #[.int .i64 0,.int .i64 0,.string ⟨#[]⟩] 43))).go.2.1;clear h;go_enter Tryz.func62,Tryz.ntmps62;go_wp2_with fail
 refine(b5l s p g _ hs hp hts.out.sc).mono ?_;rintro e w1 ⟨rfl,n1,hw1⟩;have HT1:=Hi_ (hts.out.drN n1);rw[←hw1] at HT1;clear hw1 x1 hts;generalize w.heap.size+1=K at HT1 ⊢;generalize w.heap.size=H at HT1 ⊢;obtain⟨t0,t1,t2,f0,f1,f2⟩:=HT1.out.atT;go_wp2_with (first | (go_at_call 109;refine(b2r _ _).mono ?_;rintro e w' ⟨rfl,rfl⟩;rw[hL]) | (go_at_call 112;refine(b3t _ _).mono ?_;rintro e w' ⟨rfl,rfl⟩;rw[hD]))
 refine(HRN.out _ (HT1.out.t0 _).sc).mono ?_;rintro e w2 ⟨rfl,hs2,hg2⟩;have HT2:=Hi_ ((HT1.out.t0 _).call hs2 hg2);generalize s.extract p (p+n)=X at hxs HX HT2 ⊢;clear hs2 hg2 t0 t1 t2 f0 f1 f2 HT1;obtain⟨t0,t1,t2,f0,f1,f2⟩:=HT2.out.atT;have HT3:=Hi_ (HT2.out.t2 (.string X));obtain⟨b0,b1,b2,e0,e1,e2⟩:=HT3.out.atT;obtain⟨r0,r1,r2,o0,o1,o2⟩:=HT3.out.atR;clear hL hD;by_cases h7:7<n
 ·have HE:=Hi_ (HE2.out h7);go_wp2;have HT4:=Hi_ ((((HT3.out).r0 (.int .i64 2)).r1 (.int .i64 p)).r2 (.string X));obtain⟨q0,q1,q2,_,_,_⟩:=HT4.out.atR
  (try simp only[Exit.inBlock,Exit.then])
  refine bodyPost_ret (v:=.tuple #[.agg #[.int .i64 2,.int .i64 p,.string X],.int .i64 2]) (by rw[results_cell_tmp rfl];go_simp) rfl ?_;exact c6A.mk HE.out (fun h=>absurd h (by decide)) hns HT4.out
 ·by_cases h1:1<n
  ·by_cases h48:s[p].toNat=48
   ·have HE:=Hi_ (HE1.out h7 h1 h48);have d48:((s[p].toNat:Int)==48)=true:=by simp;omega
    clear h48;go_wp2;have HT4:=Hi_ ((((HT3.out).r0 (.int .i64 2)).r1 (.int .i64 p)).r2 (.string X));obtain⟨q0,q1,q2,_,_,_⟩:=HT4.out.atR
    (try simp only[Exit.inBlock,Exit.then])
    refine bodyPost_ret (v:=.tuple #[.agg #[.int .i64 2,.int .i64 p,.string X],.int .i64 1]) (by rw[results_cell_tmp rfl];go_simp) rfl ?_;exact c6A.mk HE.out (fun h=>absurd h (by decide)) hns HT4.out
   ·have HE:=Hi_ (HE0.out h7 (fun h=>h48 h.2));have d48:((s[p].toNat:Int)==48)=false:=by simp;omega
    clear h48;go_wp2;have HT4:=Hi_ ((((HT3.out).r0 (.int .i64 2)).r1 (.int .i64 p)).r2 (.string X));obtain⟨q0,q1,q2,_,_,_⟩:=HT4.out.atR
    (try simp only[Exit.inBlock,Exit.then])
    refine bodyPost_ret (v:=.tuple #[.agg #[.int .i64 2,.int .i64 p,.string X],.int .i64 0]) (by rw[results_cell_tmp rfl];go_simp) rfl ?_;exact c6A.mk HE.out (fun _=>HX.out) hns HT4.out
  ·have HE:=Hi_ (HE0.out h7 (fun h=>h1 h.1));go_wp2;have HT4:=Hi_ ((((HT3.out).r0 (.int .i64 2)).r1 (.int .i64 p)).r2 (.string X));obtain⟨q0,q1,q2,_,_,_⟩:=HT4.out.atR
   (try simp only[Exit.inBlock,Exit.then])
   refine bodyPost_ret (v:=.tuple #[.agg #[.int .i64 2,.int .i64 p,.string X],.int .i64 0]) (by rw[results_cell_tmp rfl];go_simp) rfl ?_;exact c6A.mk HE.out (fun _=>HX.out) hns HT4.out
theorem c5f(s:ByteArray)(p g:Nat)(w:World)(hs:s.size≤6000)(hp:p<s.size)(h:Sc w g s p)(hL:isL s[p].toNat=false)(hD:isD s[p].toNat=false)(hE:bt s p=61∧bt s (p+1)=61) :
  Calls Tryz.prog 62 #[.pointer (some ⟨g,0,none⟩)] w fun r w'=>c6A s p g w r w':=by
 have HPF:Hid (∀W,Calls Tryz.prog 113 #[.string (s.extract p s.size),.string ⟨#[61,61]⟩] W fun e w'=>e=.returned (.bool true)∧w'=W):=Hi_ (fun W=>by
  have h:=Tryz.strings_HasPrefix (s.extract p s.size) ⟨#[61,61]⟩ W;rw[show(⟨#[61,61]⟩:ByteArray).data.toList=[61,61] from rfl,b7U,decide_eq_true hE] at h;exact h)
 have hp2:p+2≤s.size:=by have:=c2x (s:=s) (i:=p+1) (by omega);omega
 have hta:b0X s p=(3,2):=by rw[b1j,b2N hp,if_neg (by simp[hL]),if_neg (by simp[hD]),if_pos (by rw[←b2N hp];exact hE)]
 have hx:(⟨#[61,61]⟩:ByteArray)=s.extract p (p+2):=by
  apply b7l
  ·rw[b1r hp2];show 2=_;omega
  ·intro k hk;have hk2:k<2:=hk;rw[b3N _ _ _ _ hp2,if_pos (by omega)]
   match k,hk2 with
   | 0,_=>rw[Nat.add_zero,hE.1];rw[b3m];rfl
   | 1,_=>rw[hE.2];rw[b3m];rfl
 have HX:Hid ((⟨3,p,⟨#[61,61]⟩⟩:Tok)=b1f s p∧p+2=p+(b0X s p).2):=Hi_ (by unfold b1f;rw[hta,hx];exact⟨rfl,rfl⟩);have HE:Hid (b1I s p=0):=Hi_ (by rw[b2C,hta,if_neg (by simp),if_neg (by simp),if_neg (by simp)]);clear hE hta hx
 have hts:Hid (TS w ((w.alloc (.cells #[.int .i64 0,.int .i64 0,.string ⟨#[]⟩] 43)).alloc (.cells #[.int .i64 3,.int .i64 p,.string ⟨#[]⟩] 43)) g s p w.heap.size (w.heap.size+1) (.int .i64 0) (.int .i64 0) (.string ⟨#[]⟩) (.int .i64 3) (.int .i64 p) (.string ⟨#[]⟩)):=Hi_
  {sc:=(h.keep ((Bel.rfl_ w).al _)).keep ((Bel.rfl_ _).al _)
   r:=(Blk.new w _ _).keep ((Bel.rfl_ _).al _)
   t:=by have:=Blk.new (w.alloc (.cells #[.int .i64 0,.int .i64 0,.string ⟨#[]⟩] 43)) 43 #[.int .i64 3,.int .i64 p,.string ⟨#[]⟩];simpa using this
   gr:=b2S (b2S (World.grownBy.refl _ _) _) _
   hg:=Blk.lt h
   hH:=Nat.le_refl _
   hK:=by omega
   hHK:=by omega }
 have x1:=(h.keep ((Bel.rfl_ w).al (.cells #[.int .i64 0,.int .i64 0,.string ⟨#[]⟩] 43))).go.2.1;clear h;go_enter Tryz.func62,Tryz.ntmps62;go_wp2_with fail
 refine(b5l s p g _ hs hp hts.out.sc).mono ?_;rintro e w1 ⟨rfl,n1,hw1⟩;have HT1:=Hi_ (hts.out.drN n1);rw[←hw1] at HT1;clear hw1 x1 hts;generalize w.heap.size+1=K at HT1 ⊢;generalize w.heap.size=H at HT1 ⊢;obtain⟨t0,t1,t2,f0,f1,f2⟩:=HT1.out.atT;obtain⟨g0,g1,gy⟩:=HT1.out.sc.go;go_wp2_with (first | (go_at_call 109;refine(b2r _ _).mono ?_;rintro e w' ⟨rfl,rfl⟩;rw[hL]) | (go_at_call 112;refine(b3t _ _).mono ?_;rintro e w' ⟨rfl,rfl⟩;rw[hD]))
 go_quiet ((go_at_call 113;exact Calls.quiet_of_same (HPF.out _)))
 clear hL hD;have HT2:=Hi_ (HT1.out.drN nq);generalize w1.drewN nq=w2 at HT2 ⊢;clear t0 t1 t2 f0 f1 f2 g0 g1 gy HT1;obtain⟨t0,t1,t2,f0,f1,f2⟩:=HT2.out.atT;have HT3:=Hi_ (HT2.out.t2 (.string ⟨#[61,61]⟩));obtain⟨g0,g1,gy⟩:=HT3.out.sc.go;have HT5:=Hi_ (HT3.out.at_ (q:=p+2) (x:=(p:Int)+2) (by omega));obtain⟨b0,b1,b2,e0,e1,e2⟩:=HT5.out.atT;obtain⟨r0,r1,r2,o0,o1,o2⟩:=HT5.out.atR;go_wp2;have HT4:=Hi_ ((((HT5.out).r0 (.int .i64 3)).r1 (.int .i64 p)).r2 (.string ⟨#[61,61]⟩));obtain⟨q0,q1,q2,_,_,_⟩:=HT4.out.atR
 (try simp only[Exit.inBlock,Exit.then])
 refine bodyPost_ret (v:=.tuple #[.agg #[.int .i64 3,.int .i64 p,.string ⟨#[61,61]⟩],.int .i64 0]) (by rw[results_cell_tmp rfl];go_simp) rfl ?_;exact c6A.mk HE.out (fun _=>HX.out) hp2 HT4.out
theorem c2h(s:ByteArray)(p g:Nat)(w:World)(hs:s.size≤6000)(hp:p<s.size)(h:Sc w g s p)(hL:isL s[p].toNat=false)(hD:isD s[p].toNat=false)(hE:¬(bt s p=61∧bt s (p+1)=61))(hS:isS s[p].toNat=true) :
  Calls Tryz.prog 62 #[.pointer (some ⟨g,0,none⟩)] w fun r w'=>c6A s p g w r w':=by
 have HPF:Hid (∀W,Calls Tryz.prog 113 #[.string (s.extract p s.size),.string ⟨#[61,61]⟩] W fun e w'=>e=.returned (.bool false)∧w'=W):=Hi_ (fun W=>by
  have h:=Tryz.strings_HasPrefix (s.extract p s.size) ⟨#[61,61]⟩ W;rw[show(⟨#[61,61]⟩:ByteArray).data.toList=[61,61] from rfl,b7U,decide_eq_false hE] at h;exact h)
 have hb2:s[p].toNat<256:=s[p].toNat_lt;obtain⟨o,ho⟩:∃o:Int,Lib.indexByte signs.data.toList ((s[p].toNat:Int).toNat.toUInt8)=o:=⟨_,rfl⟩;have hd0:=c3X s[p].toNat hb2;rw[ho,hS] at hd0
 have HIX:Hid (∀W,Calls Tryz.prog 114 #[.string ⟨#[123,125,40,41,91,93,59,44,61,43,45,42,47,37,60]⟩,.int .u8 (s[p].toNat:Int)] W fun e w'=>e=.returned (.int .i64 o)∧w'=W):=Hi_ (fun W=>by
  have h:=Tryz.strings_IndexByte signs (s[p].toNat:Int) W;rw[ho] at h;exact h)
 clear ho hb2;have hta:b0X s p=(3,1):=by rw[b1j,b2N hp,if_neg (by simp[hL]),if_neg (by simp[hD]),if_neg (by rw[←b2N hp];exact hE),if_pos hS]
 have hx:(⟨#[s[p]]⟩:ByteArray)=s.extract p (p+1):=by
  apply b7l
  ·rw[b1r (by omega)];show 1=_;omega
  ·intro k hk;have hk2:k<1:=hk;obtain rfl:k=0:=by omega
   rw[b3N _ _ _ _ (by omega),if_pos (by omega),Nat.add_zero,b2N hp,b3m];rfl
 have HX:Hid ((⟨3,p,⟨#[s[p]]⟩⟩:Tok)=b1f s p∧p+1=p+(b0X s p).2):=Hi_ (by unfold b1f;rw[hta,hx];exact⟨rfl,rfl⟩);have HE:Hid (b1I s p=0):=Hi_ (by rw[b2C,hta,if_neg (by simp),if_neg (by simp),if_neg (by simp)]);have hutf:=c7C s[p] (c6P hS);clear hE hta hx hS
 have hts:Hid (TS w ((w.alloc (.cells #[.int .i64 0,.int .i64 0,.string ⟨#[]⟩] 43)).alloc (.cells #[.int .i64 3,.int .i64 p,.string ⟨#[]⟩] 43)) g s p w.heap.size (w.heap.size+1) (.int .i64 0) (.int .i64 0) (.string ⟨#[]⟩) (.int .i64 3) (.int .i64 p) (.string ⟨#[]⟩)):=Hi_
  {sc:=(h.keep ((Bel.rfl_ w).al _)).keep ((Bel.rfl_ _).al _)
   r:=(Blk.new w _ _).keep ((Bel.rfl_ _).al _)
   t:=by have:=Blk.new (w.alloc (.cells #[.int .i64 0,.int .i64 0,.string ⟨#[]⟩] 43)) 43 #[.int .i64 3,.int .i64 p,.string ⟨#[]⟩];simpa using this
   gr:=b2S (b2S (World.grownBy.refl _ _) _) _
   hg:=Blk.lt h
   hH:=Nat.le_refl _
   hK:=by omega
   hHK:=by omega }
 have x1:=(h.keep ((Bel.rfl_ w).al (.cells #[.int .i64 0,.int .i64 0,.string ⟨#[]⟩] 43))).go.2.1;clear h;go_enter Tryz.func62,Tryz.ntmps62;go_wp2_with fail
 refine(b5l s p g _ hs hp hts.out.sc).mono ?_;rintro e w1 ⟨rfl,n1,hw1⟩;have HT1:=Hi_ (hts.out.drN n1);rw[←hw1] at HT1;clear hw1 x1 hts;generalize w.heap.size+1=K at HT1 ⊢;generalize w.heap.size=H at HT1 ⊢;obtain⟨t0,t1,t2,f0,f1,f2⟩:=HT1.out.atT;obtain⟨g0,g1,gy⟩:=HT1.out.sc.go;go_wp2_with (first | (go_at_call 109;refine(b2r _ _).mono ?_;rintro e w' ⟨rfl,rfl⟩;rw[hL]) | (go_at_call 112;refine(b3t _ _).mono ?_;rintro e w' ⟨rfl,rfl⟩;rw[hD]))
 go_quiet ((go_at_call 113;exact Calls.quiet_of_same (HPF.out _)))
 clear hL hD;have HT2:=Hi_ (HT1.out.drN nq);generalize w1.drewN nq=w2 at HT2 ⊢;clear t0 t1 t2 f0 f1 f2 g0 g1 gy HT1;obtain⟨t0,t1,t2,f0,f1,f2⟩:=HT2.out.atT;have HT3:=Hi_ (HT2.out.t2 (.string ⟨#[s[p]]⟩));obtain⟨g0,g1,gy⟩:=HT3.out.sc.go;have HT5:=Hi_ (HT3.out.at_ (q:=p+1) (x:=(p:Int)+1) (by omega));obtain⟨b0,b1,b2,e0,e1,e2⟩:=HT5.out.atT;obtain⟨r0,r1,r2,o0,o1,o2⟩:=HT5.out.atR;go_wp2_with (go_at_call 114;refine(HIX.out _).mono ?_;rintro e w' ⟨rfl,rfl⟩)
 have HT4:=Hi_ ((((HT5.out).r0 (.int .i64 3)).r1 (.int .i64 p)).r2 (.string ⟨#[s[p]]⟩));obtain⟨q0,q1,q2,_,_,_⟩:=HT4.out.atR
 (try simp only[Exit.inBlock,Exit.then])
 refine bodyPost_ret (v:=.tuple #[.agg #[.int .i64 3,.int .i64 p,.string ⟨#[s[p]]⟩],.int .i64 0]) (by rw[results_cell_tmp rfl];go_simp) rfl ?_;exact c6A.mk HE.out (fun _=>HX.out) (by omega) HT4.out
theorem c2g(s:ByteArray)(p g:Nat)(w:World)(hs:s.size≤6000)(hp:p<s.size)(h:Sc w g s p)(hL:isL s[p].toNat=false)(hD:isD s[p].toNat=false)(hE:¬(bt s p=61∧bt s (p+1)=61))(hS:isS s[p].toNat=false) :
  Calls Tryz.prog 62 #[.pointer (some ⟨g,0,none⟩)] w fun r w'=>c6A s p g w r w':=by
 have HPF:Hid (∀W,Calls Tryz.prog 113 #[.string (s.extract p s.size),.string ⟨#[61,61]⟩] W fun e w'=>e=.returned (.bool false)∧w'=W):=Hi_ (fun W=>by
  have h:=Tryz.strings_HasPrefix (s.extract p s.size) ⟨#[61,61]⟩ W;rw[show(⟨#[61,61]⟩:ByteArray).data.toList=[61,61] from rfl,b7U,decide_eq_false hE] at h;exact h)
 have hb2:s[p].toNat<256:=s[p].toNat_lt;obtain⟨o,ho⟩:∃o:Int,Lib.indexByte signs.data.toList ((s[p].toNat:Int).toNat.toUInt8)=o:=⟨_,rfl⟩;have hd0:=c3X s[p].toNat hb2;rw[ho,hS] at hd0
 have HIX:Hid (∀W,Calls Tryz.prog 114 #[.string ⟨#[123,125,40,41,91,93,59,44,61,43,45,42,47,37,60]⟩,.int .u8 (s[p].toNat:Int)] W fun e w'=>e=.returned (.int .i64 o)∧w'=W):=Hi_ (fun W=>by
  have h:=Tryz.strings_IndexByte signs (s[p].toNat:Int) W;rw[ho] at h;exact h)
 clear ho hb2;have hta:b0X s p=(0,0):=by rw[b1j,b2N hp,if_neg (by simp[hL]),if_neg (by simp[hD]),if_neg (by rw[←b2N hp];exact hE),if_neg (by simp[hS])]
 have HE:Hid (b1I s p=1):=Hi_ (by rw[b2C,hta,if_pos rfl]);clear hE hta hS
 have hts:Hid (TS w ((w.alloc (.cells #[.int .i64 0,.int .i64 0,.string ⟨#[]⟩] 43)).alloc (.cells #[.int .i64 3,.int .i64 p,.string ⟨#[]⟩] 43)) g s p w.heap.size (w.heap.size+1) (.int .i64 0) (.int .i64 0) (.string ⟨#[]⟩) (.int .i64 3) (.int .i64 p) (.string ⟨#[]⟩)):=Hi_
  {sc:=(h.keep ((Bel.rfl_ w).al _)).keep ((Bel.rfl_ _).al _)
   r:=(Blk.new w _ _).keep ((Bel.rfl_ _).al _)
   t:=by have:=Blk.new (w.alloc (.cells #[.int .i64 0,.int .i64 0,.string ⟨#[]⟩] 43)) 43 #[.int .i64 3,.int .i64 p,.string ⟨#[]⟩];simpa using this
   gr:=b2S (b2S (World.grownBy.refl _ _) _) _
   hg:=Blk.lt h
   hH:=Nat.le_refl _
   hK:=by omega
   hHK:=by omega }
 have x1:=(h.keep ((Bel.rfl_ w).al (.cells #[.int .i64 0,.int .i64 0,.string ⟨#[]⟩] 43))).go.2.1;clear h;go_enter Tryz.func62,Tryz.ntmps62;go_wp2_with fail
 refine(b5l s p g _ hs hp hts.out.sc).mono ?_;rintro e w1 ⟨rfl,n1,hw1⟩;have HT1:=Hi_ (hts.out.drN n1);rw[←hw1] at HT1;clear hw1 x1 hts;generalize w.heap.size+1=K at HT1 ⊢;generalize w.heap.size=H at HT1 ⊢;obtain⟨t0,t1,t2,f0,f1,f2⟩:=HT1.out.atT;obtain⟨g0,g1,gy⟩:=HT1.out.sc.go;go_wp2_with (first | (go_at_call 109;refine(b2r _ _).mono ?_;rintro e w' ⟨rfl,rfl⟩;rw[hL]) | (go_at_call 112;refine(b3t _ _).mono ?_;rintro e w' ⟨rfl,rfl⟩;rw[hD]))
 go_quiet ((go_at_call 113;exact Calls.quiet_of_same (HPF.out _)))
 clear hL hD;have HT2:=Hi_ (HT1.out.drN nq);generalize w1.drewN nq=w2 at HT2 ⊢;clear t0 t1 t2 f0 f1 f2 g0 g1 gy HT1;obtain⟨b0,b1,b2,e0,e1,e2⟩:=HT2.out.atT;obtain⟨r0,r1,r2,o0,o1,o2⟩:=HT2.out.atR;go_wp2_with (go_at_call 114;refine(HIX.out _).mono ?_;rintro e w' ⟨rfl,rfl⟩)
 have HT4:=Hi_ ((((HT2.out).r0 (.int .i64 3)).r1 (.int .i64 p)).r2 (.string ⟨#[]⟩));obtain⟨q0,q1,q2,_,_,_⟩:=HT4.out.atR
 (try simp only[Exit.inBlock,Exit.then])
 refine bodyPost_ret (v:=.tuple #[.agg #[.int .i64 3,.int .i64 p,.string ⟨#[]⟩],.int .i64 1]) (by rw[results_cell_tmp rfl];go_simp) rfl ?_;exact c6A.mk HE.out (fun h=>absurd h (by decide)) (by omega) HT4.out
theorem c4M(s:ByteArray)(p g:Nat)(w:World)(hs:s.size≤6000)(hp:p<s.size)(h:Sc w g s p) :
  Calls Tryz.prog 62 #[.pointer (some ⟨g,0,none⟩)] w fun r w'=>c6A s p g w r w':=by
 cases hL:isL s[p].toNat with
 | true=>exact c2f s p g w hs hp h hL
 | false =>
  cases hD:isD s[p].toNat with
  | true=>exact b9m s p g w hs hp h hL hD
  | false =>
   by_cases hE:bt s p=61∧bt s (p+1)=61
   ·exact c5f s p g w hs hp h hL hD hE
   ·cases hS:isS s[p].toNat with
    | true=>exact c2h s p g w hs hp h hL hD hE hS
    | false=>exact c2g s p g w hs hp h hL hD hE hS
theorem c5j{P:Program}(W:World){ops:Array Oper}{rest:List Oper}{o:Oper}{a:Act}{Q:Exit→Act→World→Prop}(hgd:o.guard=none)(s x:Operand)(t:TypeId)
  (ho:o.op=.call { callee:=.builtin .append,args:=#[s,x],argTypes:=#[t,t] }) (base:Nat) {e:TypeId} {size bytes:Nat} (E:Elem P t e size bytes)
  (v:Value) (n:Nat) (xs:List Value) (hs:a.eval s=v) (hown:W.ownsRow base e size v n xs) (cs:List Value) (H:Nat) (hH:W.heap.size=H) (hx:a.eval x=.slice (some ⟨H,0,none⟩) 1 1)
  (hl:cs.length=size) (h1:∀u∈cs,u.oneCell'=true) (h63:n+1≤maxLen) (hbytes:(n+1)*bytes≤140737488355328) (hbase:base≤W.heap.size)
  (h:∀g cap w',w'.ownsRow base e size (.slice (some ⟨g,0,none⟩) (n+1) cap) (n+1) (xs++cs)→W.grownBy w' v.ownBlock→(v.ownBlock=some g∨W.heap.size≤g) →
   wpList P ops Q rest (a.put o.dst (.slice (some ⟨g,0,none⟩) (n+1) cap)) w'):wpList P ops Q (o::rest) a (W.alloc (.cells cs.toArray e)):=by
 subst hH;exact b2v W hgd s x t ho base E v n xs hs hown cs hx hl h1 h63 hbytes hbase h
structure ScanSt(w:World)(g:Nat)(s:ByteArray)(q:Nat)(v:Value)(acc:List Tok)(wr:World):Prop where
 sc:Sc wr g s q
 own:wr.ownsRow (g+1) 43 3 v acc.length (acc.flatMap Tok.cells)
 bel:Bel w wr
 hg:w.heap.size≤g
section
variable {w wr w':World}{g:Nat}{s:ByteArray}{q:Nat}{v:Value}{acc:List Tok}
theorem ScanSt.ne(h:ScanSt w g s q v acc wr):some g≠v.ownBlock:=fun e=>by
 have:=(h.own.lt g e.symm).1;omega
theorem ScanSt.call{q':Nat}(h:ScanSt w g s q v acc wr)(hs:Sc w' g s q')(hg:wr.grownBy w' (some g)):ScanSt w g s q' v acc w':=
 {sc:=hs
  own:=h.own.kept hg (.inr (fun e=>h.ne e.symm))
  bel:=Below.grown h.bel hg h.bel.size (fun k hk=>by have:=h.hg;have:g=k:=(by simpa using hk);omega)
  hg:=h.hg }
theorem ScanSt.al(h:ScanSt w g s q v acc wr)(o:Obj):ScanSt w g s q v acc (wr.alloc o):=
 { sc:=h.sc.keep ((Bel.rfl_ wr).al o),own:=((Bel.rfl_ wr).al o).own h.own,bel:=h.bel.al o,hg:=h.hg }
theorem ScanSt.app{v':Value}{t:Tok}(h:ScanSt w g s q v acc wr)(ho:w'.ownsRow (g+1) 43 3 v' (acc.length+1) (acc.flatMap Tok.cells++t.cells))(hg:wr.grownBy w' v.ownBlock):ScanSt w g s q v' (acc++[t]) w':=
 {sc:=Blk.grown h.sc hg h.ne
  own:=by rw[b4X,List.length_append];exact ho
  bel:=Below.ofGrown h.bel h.own hg (by have:=h.hg;omega) h.bel.size
  hg:=h.hg }
end
theorem c1K(s:ByteArray)(w:World)(_hm:s.size≤maxLen) :
  Calls Tryz.prog 24 #[.string s] w fun r w'=>b9r s w r w':=by
 by_cases hs:6000<s.size
 ·have HR:Hid (b0N s=([],0,2)):=Hi_ (by unfold b0N;rw[if_pos hs]);go_enter Tryz.func24,Tryz.ntmps24;go_wp2;go_ret3
  exact⟨_,by rw[HR.out];rfl,by rw[HR.out];exact Sl.nil_ _ _,Bel.rfl_ w⟩
 ·have HR:Hid (b0N s=b1z s 0 false []):=Hi_ (by unfold b0N;rw[if_neg hs]);have hs6:s.size≤6000:=by omega
  clear _hm
  have H0:Hid (ScanSt w w.heap.size s 0 (.slice none 0 0) [] (w.alloc (.cells #[.string s,.int .i64 0] 99))):=Hi_
   { sc:=Blk.new _ _ _,own:=World.ownsRow_nil _ _ _ _,bel:=(Bel.rfl_ w).al _,hg:=Nat.le_refl _ }
  have HSK:=Hi_ (fun W q (hq:q≤s.size) (h:Sc W w.heap.size s q)=>c5e s q w.heap.size W hs6 hq h);go_enter Tryz.func24,Tryz.ntmps24;have hd0:decide ((6000:Int)<(s.size:Int))=false:=decide_eq_false (by omega);go_wp2_with fail
  refine(HSK.out _ 0 (by omega) H0.out.sc).mono ?_;rintro e w1 ⟨rfl,hs1,hg1⟩;have H1:=Hi_ (H0.out.call hs1 hg1);have HG1:Hid (b1z s (b1Y s 0 false) false []=b0N s):=Hi_ (by rw[HR.out];exact(b4v s [] _ 0 false rfl).symm);have HA1:=Hi_ (b6q s _ 0 false rfl);have hq1:=b8F s false (i:=0) (by omega);clear hs1 hg1 H0 HR hd0;generalize b1Y s 0 false=q0 at H1 HG1 HA1 hq1;go_wp2;go_loopw [6] (fun v wr=>∃(q:Nat) (acc:List Tok),q≤s.size∧acc.length≤q∧Hid (b1z s q false acc=b0N s)∧Hid (∀h:q<s.size,(false || s[q].toNat==35)=false∧b5q s[q].toNat=false)∧Hid (ScanSt w w.heap.size s q v acc wr)) (fun _ wr=>s.size-b5I wr w.heap.size)
  case atStart=>exact⟨q0,[],hq1,by simp,HG1,HA1,H1⟩
  case round =>
   clear H1 HG1 HA1 hq1;obtain⟨q,acc,hq,hacc,HS,HA,HT⟩:=hrel;obtain⟨x0,x1,y1⟩:=HT.out.sc.go;have HP:=Hi_ HT.out.sc.pos;by_cases hlt:q<s.size
   ·have hd:decide (q<s.size)=true:=decide_eq_true hlt;have HTK:=Hi_ (c4M s q w.heap.size wr hs6 hlt HT.out.sc);by_cases he:b1I s q=0
    ·have hpos:=b2B (b1a he);have HS2:Hid (b1z s (q+(b0X s q).2) false (acc++[b1f s q])=b0N s):=Hi_ (by rw[←HS.out];exact(b4c hlt (HA.out hlt).1 (HA.out hlt).2 he).symm);have HE:=Hi_ he;clear he;go_wp2_with fail
     refine HTK.out.mono ?_;rintro e w2 ⟨t,q2,rfl,hta,ht,hq2,hs2,hg2⟩;obtain⟨htt,hqq⟩:=ht HE.out;rw[HE.out];rw[←htt,←hqq] at HS2;have HT2:=Hi_ ((HT.out.call hs2 hg2).al (.cells #[.int .i64 t.kind,.int .i64 t.at_,.string t.text] 43));have HB2:=Hi_ (show w.heap.size+1≤(w2.alloc (.cells #[.int .i64 t.kind,.int .i64 t.at_,.string t.text] 43)).heap.size by have:=HT2.out.sc.lt;omega);have hqlt:q<q2:=by omega
     clear hs2 hg2 ht htt hta hqq hpos x0 x1 y1 HTK HE;go_wp2_with (at_builtin;refine c5j (w2.alloc (.cells #[.int .i64 t.kind,.int .i64 t.at_,.string t.text] 43)) rfl (.tmp 36) (.tmp 38) 37 rfl (w.heap.size+1) c3K u6 acc.length _ rfl HT2.out.own [.int .i64 t.kind,.int .i64 t.at_,.string t.text] _ (by simp) rfl rfl (by simp[Value.oneCell']) (by simp only[maxLen];omega) (by omega) HB2.out ?_;intro g2 cap w3 hown3 hg3 _;have HT3:=Hi_ (HT2.out.app hown3 hg3);clear hown3 hg3)
     refine(HSK.out _ q2 hq2 HT3.out.sc).mono ?_;rintro e w4 ⟨rfl,hs4,hg4⟩;have HT4:=Hi_ (HT3.out.call hs4 hg4);have HG4:Hid (b1z s (b1Y s q2 false) false (acc++[t])=b0N s):=Hi_ (by rw[←HS2.out];exact(b4v s _ _ q2 false rfl).symm);have HA4:=Hi_ (b6q s _ q2 false rfl);have hq4:=b8F s false (i:=q2) hq2;have hq5:=c5d s q2 false;have HP4:=Hi_ hs4.pos;have hlen:(acc++[t]).length=acc.length+1:=by simp
     clear hs4 hg4 HT3 HT2 HB2;go_wp2;go_roundw
     case rel=>exact⟨b1Y s q2 false,acc++[t],hq4,by omega,HG4,HA4,HT4⟩
     case measure=>rw[HP4.out,HP.out];omega
    ·have HS2:Hid (b0N s=([],(q:Int),b1I s q)):=Hi_ (by rw[←HS.out];exact b7Y hlt (HA.out hlt).1 (HA.out hlt).2 he);have hd2:(b1I s q != 0)=true:=by simpa using he
     clear he;go_wp2_with fail
     refine HTK.out.mono ?_;rintro e w2 ⟨t,q2,rfl,hta,_,hq2,hs2,hg2⟩;have HT2:=Hi_ (HT.out.call hs2 hg2);clear hs2 hg2 x0 x1 y1 HTK;go_wp2;go_quiet (fail)
     go_wp2;go_ret3
     exact⟨_,by rw[HS2.out,←hta];rfl,by rw[HS2.out];exact Sl.nil_ _ _,(HT2.out.bel.al _).drN _⟩
   ·have hd:decide (q<s.size)=false:=decide_eq_false hlt;have HS2:Hid (b0N s=(acc,0,0)):=Hi_ (by rw[←HS.out,b3g hlt]);go_wp2;go_ret3
    exact⟨_,by rw[HS2.out];rfl,by rw[HS2.out];exact Sl.own_tok HT.out.own rfl,HT.out.bel⟩
theorem c5E{kind:Int}{s:ByteArray}(h:¬((b0N s).2.2=0∧∃t,(b0N s).1=[t]∧t.kind=kind∧t.text=s)):b1T kind s=false:=by
 cases hk:b1T kind s with
 | false=>rfl
 | true=>exact absurd ((c3p kind s).1 hk) h
theorem c6e(kind:Int)(s:ByteArray)(w:World)(hm:s.size≤maxLen) :
  Calls Tryz.prog 63 #[.int .i64 kind,.string s] w fun r w'=>r=.returned (.bool (b1T kind s))∧Bel w w':=by
 have HSC:=Hi_ (fun W=>c1K s W hm);have HY:=Hi_ ((c3p kind s).2);have HN:=Hi_ (c5E (kind:=kind) (s:=s));unfold b9r at HSC;obtain⟨L,a,e,hR⟩:∃L a e,b0N s=(L,a,e):=⟨_,_,_,rfl⟩;rw[hR] at HSC HY HN;clear hR hm;go_enter Tryz.func63,Tryz.ntmps63;go_wp2_with fail
 refine(HSC.out _).mono ?_;rintro e1 w1 ⟨v,rfl,hs1,hb1⟩;have HB:=Hi_ hb1;obtain⟨A,c,rfl,hc,hm,hA⟩:=hs1;have HA:=Hi_ hA;clear hb1 hA HSC;by_cases he:e=0
 ·have hde:(e==0)=true:=by simpa using he
  by_cases hl:L.length=1
  ·obtain⟨t,rfl⟩:=List.length_eq_one_iff.1 hl;obtain⟨ab,ao,rfl,hA⟩:=HA.out (by simp);obtain⟨x0,x1,x2⟩:=b1V.cells (k:=0) hA rfl;rw[Nat.zero_mul,Nat.add_zero] at x0 x1 x2;clear hA HA;have hl1:((([t]:List Tok).length:Nat):Int)=1:=rfl;by_cases hk:t.kind=kind
   ·have hdk:(t.kind==kind)=true:=by simpa using hk
    by_cases ht:t.text=s
    ·have d1:=b2x ht;have HT:Hid (b1T kind s=true):=Hi_ (HY.out ⟨he,t,rfl,hk,ht⟩);clear he hk ht;go_wp2;go_ret;exact⟨b0Z HT.out.symm,HB.out⟩
    ·have d1:=b2U ht;have HT:Hid (b1T kind s=false):=Hi_ (HN.out (by rintro⟨_,u,h1,_,h2⟩;cases h1;exact ht h2));clear he hk ht;go_wp2;go_ret;exact⟨b0Z HT.out.symm,HB.out⟩
   ·have hdk:(t.kind==kind)=false:=by simpa using hk
    have HT:Hid (b1T kind s=false):=Hi_ (HN.out (by rintro⟨_,u,h1,h2,_⟩;cases h1;exact hk h2));clear he hk;go_wp2;go_ret;exact⟨b0Z HT.out.symm,HB.out⟩
  ·have hdl:((L.length:Int)==1)=false:=by simp;omega
   have HT:Hid (b1T kind s=false):=Hi_ (HN.out (by rintro⟨_,u,h1,_⟩;rw[show L=[u] from h1] at hl;exact hl rfl));clear he hl HA;go_wp2;go_ret;exact⟨b0Z HT.out.symm,HB.out⟩
 ·have hde:(e==0)=false:=by simpa using he
  have HT:Hid (b1T kind s=false):=Hi_ (HN.out (by rintro⟨h,_⟩;exact he h));clear he HA;go_wp2;go_ret;exact⟨b0Z HT.out.symm,HB.out⟩
end Go.Proofs.YtmfjlcpjemccmaaGreatDoor
