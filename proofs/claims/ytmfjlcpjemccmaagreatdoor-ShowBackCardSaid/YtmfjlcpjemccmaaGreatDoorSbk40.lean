/- The program's parser of an expression: walked. Each lemma states its own conditions. -/
import Derived.Test.YtmfjlcpjemccmaaGreatDoorSbk39
import Derived.Deep.CutRange
namespace Go.Proofs.YtmfjlcpjemccmaaGreatDoor
set_option maxRecDepth 20000
set_option maxHeartbeats 4000000
open Go.RowKit
def c7L(B:Nat)(e:TE)(r:Ending)(w':World):Prop:=∃A c,r=.returned (.agg #[.int .i64 e.kind,.int .i64 e.at_,.int .i64 e.n,.string e.name,.slice A e.args.length c])∧e.name.size≤maxLen∧Sl teR (low B w') (.slice A e.args.length c) e.args
def b2H(w:World)(g:Nat)(lv:Value)(l:List Tok)(E:Nat)(x:TE×RS)(r:Ending)(w':World):Prop:=PsR w g lv l E x.2 (c7L w.heap.size x.1) r w'
theorem b2H.mk{w:World}{g:Nat}{lv:Value}{l:List Tok}{E p:Nat}{x:TE×RS}{w':World}{k a n:Int}{s:ByteArray}{args:List TE}{A:Option Addr}{c:Nat}(hx:x=(.mk k a n s args,(p,false)))(hg:w.grownBy w' (some g))(hr:Ps w' g lv p E)(hs:s.size≤maxLen)(hl:Sl teR (low w.heap.size w') (.slice A args.length c) args) :
  b2H w g lv l E x (.returned (.agg #[.int .i64 k,.int .i64 a,.int .i64 n,.string s,.slice A args.length c])) w':=by
 subst hx;exact .mkGood rfl hg hr ⟨A,c,rfl,hs,hl⟩
theorem BlP.row_{w X W:World}{g:Nat}{lv:Value}{E p:Nat}{t:TypeId}{R q:Nat}{zs cs:Array Value}(h:BlP w X W g lv E p t R q zs cs):BlP w X (W.setRow R cs) g lv E p t R q cs cs:=h.row cs
theorem c0S(l:List Tok)(lv:Value)(p E g:Nat)(s:ByteArray)(hs:s≠emp)(w:World)(hl:Sl b1V w lv l)(hn:l.length≤6000)(h:Ps w g lv p E){b:Bool}(hb:decide (tx l p false=s)=b) :
  Calls Tryz.prog 138 #[.pointer (some ⟨g,0,none⟩),.string s] w fun r w'=>r=.returned (.bool b)∧Bel w w':=hb▸b8z l lv p E g s hs w hl hn h
theorem b3J(l:List Tok)(lv:Value)(p E g:Nat)(w:World)(hl:Sl b1V w lv l)(hn:l.length≤6000)(hm:∀t∈l,t.text.size≤maxLen)(h:Ps w g lv p E){b:Bool}(hb:b0H (tx l p false)=b) :
  Calls Tryz.prog 205 #[.pointer (some ⟨g,0,none⟩)] w fun r w'=>r=.returned (.bool b)∧Bel w w':=hb▸b9d l lv p E g w hl hn hm h
theorem kTY{l:List Tok}{lv:Value}{E g:Nat}{w0:World}(hl:Sl b1V w0 lv l)(hn:l.length≤6000)(W:World)(k:Nat)(s:ByteArray)(hs:s≠emp)(ht:tx l k false=s)(hb:Bel w0 W)(h:Ps W g lv k E):Calls Tryz.prog 185 #[.pointer (some ⟨g,0,none⟩),.string s] W fun r w'=>r=.returned (.bool true)∧Ps w' g lv (k+1) E∧W.grownBy w' (some g):=b6t l lv k E g s hs W (hl.keep hb) hn h ht
theorem kTN{l:List Tok}{lv:Value}{E g:Nat}{w0:World}(hl:Sl b1V w0 lv l)(hn:l.length≤6000)(W:World)(k:Nat)(s:ByteArray)(hs:s≠emp)(ht:tx l k false≠s)(hb:Bel w0 W)(h:Ps W g lv k E):Calls Tryz.prog 185 #[.pointer (some ⟨g,0,none⟩),.string s] W fun r w'=>r=.returned (.bool false)∧Bel W w':=b9C l lv k E g s hs W (hl.keep hb) hn h ht
theorem kSE{l:List Tok}{lv:Value}{E g:Nat}{w0:World}(hl:Sl b1V w0 lv l)(hn:l.length≤6000)(W:World)(k:Nat)(s:ByteArray)(b:Bool)(hs:s≠emp)(ht:decide (tx l k false=s)=b)(hb:Bel w0 W)(h:Ps W g lv k E):Calls Tryz.prog 138 #[.pointer (some ⟨g,0,none⟩),.string s] W fun r w'=>r=.returned (.bool b)∧Bel W w':=c0S l lv k E g s hs W (hl.keep hb) hn h ht
theorem kNA{l:List Tok}{lv:Value}{E g:Nat}{w0:World}(hl:Sl b1V w0 lv l)(hn:l.length≤6000)(hm:∀t∈l,t.text.size≤maxLen)(hg:w0.heap.size≤g)(W:World)(k:Nat)(hb:Bel w0 W)(h:Ps W g lv k E):Calls Tryz.prog 181 #[.pointer (some ⟨g,0,none⟩)] W fun r w'=>PsR W g lv l E (b0D l (k,false)).2 (fun r _=>r=.returned (.string (b0D l (k,false)).1)) r w':=b9T l lv k E g w0 W hl hn hm hb hg h
theorem kND{l:List Tok}{lv:Value}{E g:Nat}{w0:World}(hl:Sl b1V w0 lv l)(hn:l.length≤6000)(hg:w0.heap.size≤g)(W:World)(k q:Nat)(ss:List ByteArray)(hb:Bel w0 W)(h:Ps W g lv k E)(hs:∀s∈ss,s≠emp)(h9:ss.length≤9)(hB:Blk W q 9 (ss.map Value.string).toArray)(hq:q≠g):Calls Tryz.prog 141 #[.pointer (some ⟨g,0,none⟩),.slice (some ⟨q,0,none⟩) ss.length ss.length] W fun r w'=>PsR W g lv l E (b1M l ss (k,false)) (fun r _=>r=.returned (.tuple #[])) r w':=b2g l lv k E g q ss w0 W hl hn hb hg h hs h9 hB hq
theorem kNM{l:List Tok}{lv:Value}{E g:Nat}{w0:World}(hl:Sl b1V w0 lv l)(hn:l.length≤6000)(hm:∀t∈l,t.text.size≤maxLen)(W:World)(k:Nat)(b:Bool)(hi:b0H (tx l k false)=b)(hb:Bel w0 W)(h:Ps W g lv k E):Calls Tryz.prog 205 #[.pointer (some ⟨g,0,none⟩)] W fun r w'=>r=.returned (.bool b)∧Bel W w':=b3J l lv k E g W (hl.keep hb) hn hm h hi
theorem kBH{l:List Tok}{lv:Value}{E g:Nat}{w0:World}(hl:Sl b1V w0 lv l)(hn:l.length≤6000)(W:World)(k:Nat)(hk:k≤l.length)(hb:Bel w0 W)(h:Ps W g lv k E):Calls Tryz.prog 206 #[.pointer (some ⟨g,0,none⟩)] W fun r w'=>r=.returned (.string (tx l (k+1) false))∧Bel W w':=b4h l lv k E g W (hl.keep hb) hn hk h
theorem kFL{l:List Tok}{lv:Value}{E g:Nat}{w0:World}(hl:Sl b1V w0 lv l)(hn:l.length≤6000)(W:World)(k:Nat)(hb:Bel w0 W)(h:Ps W g lv k E):Calls Tryz.prog 144 #[.pointer (some ⟨g,0,none⟩)] W fun r w'=>r=b7i (place l E k)∧Bel W w':=b5V l lv k E g W (hl.keep hb) hn h
theorem kNU{l:List Tok}{lv:Value}{E g:Nat}{w0:World}(hl:Sl b1V w0 lv l)(hn:l.length≤6000)(hok:∀t∈l,b0r t)(hg:w0.heap.size≤g)(W:World)(k:Nat)(hb:Bel w0 W)(h:Ps W g lv k E):Calls Tryz.prog 186 #[.pointer (some ⟨g,0,none⟩)] W fun r w'=>PsR W g lv l E (b2w l (k,false)).2 (fun r _=>r=.returned (.int .i64 (b2w l (k,false)).1)) r w':=c1v l lv k E g w0 W hl hn hok hb hg h
theorem kOP{l:List Tok}{lv:Value}{E g:Nat}{w0:World}(hl:Sl b1V w0 lv l)(hn:l.length≤6000)(hg:w0.heap.size≤g)(W:World)(k:Nat)(hb:Bel w0 W)(h:Ps W g lv k E):Calls Tryz.prog 207 #[.pointer (some ⟨g,0,none⟩)] W fun r w'=>PsR W g lv l E (opS l (k,false)) (fun r _=>r=.returned (.int .i64 (opK (opD l (k,false)) 7))) r w':=b9Z l lv k E g w0 W hl hn hb hg h
theorem b8q{l:List Tok}{p:Nat}:b2w l (p,true)=(0,(p,true)):=by
 unfold b2w;rw[if_neg (by unfold tx;rw[if_pos rfl];decide)]
theorem b7J{l:List Tok}{p:Nat}:b0D l (p,true)=(emp,(p,true)):=by
 unfold b0D;rw[if_neg (by unfold tx;rw[if_pos rfl,b2q];decide)]
theorem b4D{l:List Tok}{p:Nat}:tx l p true=emp:=by unfold tx;rw[if_pos rfl]
theorem b0a{l:List Tok}{s:ByteArray}{p:Nat}:b0A l s (p,true)=(p,true):=by unfold b0A;rw[if_pos rfl]
theorem b1q{l:List Tok}{E:Nat}(d p:Nat):(b0K l E d (p,true)).2=(p,true):=by
 rw[b2K (by rw[b4D];decide) (by rw[b4D];decide) (by rw[b4D];rfl) (by rw[b7J,b4D];decide),b7J]
theorem c6g{l:List Tok}(p:Nat):opS l (p,true)=(p,true):=by
 unfold opS;cases h:opD l (p,true) with
 | none=>rfl
 | some i=>exact b0a
theorem b7L{s:ByteArray}(h:b0H s=true):s≠b0T∧s≠b1n∧b3i s=false:=by
 refine⟨fun e=>?_,fun e=>?_,?_⟩
 ·rw[e] at h;exact absurd h (by decide +kernel)
 ·rw[e] at h;exact absurd h (by decide +kernel)
 ·unfold b0H at h;rw[Bool.and_eq_true] at h;obtain⟨-,hk,-,-⟩:=c3a.1 h.1;unfold b3i;rw[Bool.and_eq_false_iff]
  right
  cases hd:isD (bt s 0) with
  | false=>rfl
  | true =>
   exfalso;have he:=b1j s 0;have hr:=b7E hd;by_cases h1:isL (bt s 0)=true
   ·unfold isL at h1;simp only[Bool.and_eq_true,decide_eq_true_eq] at h1;omega
   ·rw[if_neg h1,if_pos hd] at he;rw[he] at hk;simp at hk
theorem b7j(l:List Tok)(lv:Value)(E g:Nat)(D:Int)(p:Nat)(w0 w:World)(hl:Sl b1V w0 lv l)(hn:l.length≤6000)(hok:∀t∈l,b0r t)(hm:∀t∈l,t.text.size≤maxLen)(hg:w0.heap.size≤g)(hp:p≤l.length)(h0:Bel w0 w)(h:Ps w g lv p E)
  (hi:b0H (tx l p false)=true) (h4:tx l (p+1) false=b1o) (hD:(D==60)=true) :
  Calls Tryz.prog 184 #[.pointer (some ⟨g,0,none⟩),.int .i64 D] w fun r w'=>b2H w g lv l E (b0K l E 0 (p,false)) r w':=by
 have HHE:=Hi_ (b1O l lv p E g (w.alloc (.cells #[.int .i64 0,.int .i64 0,.int .i64 0,.string ⟨#[]⟩,.slice none 0 0] 49)) ((hl.keep h0).keep ((Bel.rfl_ w).al _)) hn (h.keep ((Bel.rfl_ w).al _)));have HNM:=Hi_ (fun W (hb:Bel w0 W) (h:Ps W g lv p E)=>b3J l lv p E g W (hl.keep hb) hn hm h hi);have HSE:=Hi_ (kSE (E:=E) (g:=g) hl hn);have HTN:=Hi_ (kTN (E:=E) (g:=g) hl hn);have HTY:=Hi_ (kTY (E:=E) (g:=g) hl hn);have HFL:=Hi_ (kFL (E:=E) (g:=g) hl hn);have HNA:=Hi_ (kNA (E:=E) hl hn hm hg);have HNU:=Hi_ (kNU (E:=E) hl hn hok hg);have HND:=Hi_ (fun W (k q:Nat) (s:ByteArray) (hb:Bel w0 W) (h:Ps W g lv k E) (hs:s≠emp) (hB:Blk W q 9 #[.string s]) (hq:q≠g)=>b2g l lv k E g q [s] w0 W hl hn hb hg h (by simpa using hs) (by simp) hB hq);have HOP:=Hi_ (kOP (E:=E) hl hn hg);have HBH:=Hi_ (fun W (hb:Bel w0 W) (h:Ps W g lv p E)=>b4h l lv p E g W (hl.keep hb) hn hp h);have e91:((tx l (p+1) false).toList==[91])=true:=b0g h4;obtain⟨n1,n2,n3⟩:=b7L hi;have HEQ:Hid ((b0K l E 0 (p,false)).2=(p+1,true)):=Hi_ (by rw[b2E n1 n2 n3 (by rw[b0j hi];exact h4),b0j hi]);clear h4 n1 n2 n3;clear hi;go_enter Tryz.func184,Tryz.ntmps184;go_wp2_with fail
 refine HHE.out.mono ?_;rintro r w1 ⟨rfl,hb⟩;have HS:=Hi_ (BlP.start (p:=p) h 49 #[.int .i64 0,.int .i64 0,.int .i64 0,.string ⟨#[]⟩,.slice none 0 0] #[.int .i64 1,.int .i64 (place l E p),.int .i64 0,.string ⟨#[]⟩,.slice none 0 0] hb);clear hb HHE h;go_upto_region 2 with fail;generalize w1.alloc (.cells #[.int .i64 1,.int .i64 (place l E p),.int .i64 0,.string ⟨#[]⟩,.slice none 0 0] 49)=W2 at *;generalize w1.heap.size=Q at *;go_wp2_with fail
 refine(HNM.out _ (HS.out.bel h0 hg) HS.out.1).mono ?_;rintro r w2 ⟨rfl,hb⟩;replace HS:=Hi_ (HS.out.keep hb);clear hb HNM;go_wp2_with fail
 refine(HBH.out _ (HS.out.bel h0 hg) HS.out.1).mono ?_;rintro r w2' ⟨rfl,hb⟩;replace HS:=Hi_ (HS.out.keep hb);clear hb HBH;obtain⟨y1,yf⟩:=HS.out.go;go_upto_region 5 with fail;replace HS:=Hi_ HS.out.at_;generalize World.setCell _ _ _=WA at *;clear y1 yf;go_wp2_with fail
 refine(HFL.out _ (p+1) (HS.out.bel h0 hg) HS.out.1).mono ?_;rintro r wf ⟨rfl,hb⟩;replace HS:=Hi_ (HS.out.keep hb);clear hb;go_wp2;exact⟨rfl,.mkBad (HEQ.out) HS.out.grew⟩
theorem c2G(l:List Tok)(lv:Value)(E g:Nat)(D:Int)(p:Nat)(w0 w:World)(hl:Sl b1V w0 lv l)(hn:l.length≤6000)(hok:∀t∈l,b0r t)(hm:∀t∈l,t.text.size≤maxLen)(hg:w0.heap.size≤g)(_hp:p≤l.length)(h0:Bel w0 w)(h:Ps w g lv p E)
  (hi:b0H (tx l p false)=false) (h1:tx l p false=b0T) (hD:(D==60)=true) :
  Calls Tryz.prog 184 #[.pointer (some ⟨g,0,none⟩),.int .i64 D] w fun r w'=>b2H w g lv l E (b0K l E 0 (p,false)) r w':=by
 have HHE:=Hi_ (b1O l lv p E g (w.alloc (.cells #[.int .i64 0,.int .i64 0,.int .i64 0,.string ⟨#[]⟩,.slice none 0 0] 49)) ((hl.keep h0).keep ((Bel.rfl_ w).al _)) hn (h.keep ((Bel.rfl_ w).al _)));have HNM:=Hi_ (fun W (hb:Bel w0 W) (h:Ps W g lv p E)=>b3J l lv p E g W (hl.keep hb) hn hm h hi);have HSE:=Hi_ (kSE (E:=E) (g:=g) hl hn);have HTN:=Hi_ (kTN (E:=E) (g:=g) hl hn);have HTY:=Hi_ (kTY (E:=E) (g:=g) hl hn);have HFL:=Hi_ (kFL (E:=E) (g:=g) hl hn);have HNA:=Hi_ (kNA (E:=E) hl hn hm hg);have HNU:=Hi_ (kNU (E:=E) hl hn hok hg);have HND:=Hi_ (fun W (k q:Nat) (s:ByteArray) (hb:Bel w0 W) (h:Ps W g lv k E) (hs:s≠emp) (hB:Blk W q 9 #[.string s]) (hq:q≠g)=>b2g l lv k E g q [s] w0 W hl hn hb hg h (by simpa using hs) (by simp) hB hq);have HOP:=Hi_ (kOP (E:=E) hl hn hg);have HT:=Hi_ (decide_eq_true h1);have HEQ:Hid ((b0K l E 0 (p,false)).2=(p,true)):=Hi_ (by rw[b3P h1]);clear h1;clear hi;go_enter Tryz.func184,Tryz.ntmps184;go_wp2_with fail
 refine HHE.out.mono ?_;rintro r w1 ⟨rfl,hb⟩;have HS:=Hi_ (BlP.start (p:=p) h 49 #[.int .i64 0,.int .i64 0,.int .i64 0,.string ⟨#[]⟩,.slice none 0 0] #[.int .i64 1,.int .i64 (place l E p),.int .i64 0,.string ⟨#[]⟩,.slice none 0 0] hb);clear hb HHE h;go_upto_region 2 with fail;generalize w1.alloc (.cells #[.int .i64 1,.int .i64 (place l E p),.int .i64 0,.string ⟨#[]⟩,.slice none 0 0] 49)=W2 at *;generalize w1.heap.size=Q at *;go_wp2_with fail
 refine(HNM.out _ (HS.out.bel h0 hg) HS.out.1).mono ?_;rintro r w2 ⟨rfl,hb⟩;replace HS:=Hi_ (HS.out.keep hb);clear hb HNM;go_wp2_with fail
 refine(HSE.out _ p b0T true (by decide) HT.out (HS.out.bel h0 hg) HS.out.1).mono ?_;rintro r ws ⟨rfl,hb⟩;replace HS:=Hi_ (HS.out.keep hb);clear hb;go_wp2_with fail
 refine(HFL.out _ p (HS.out.bel h0 hg) HS.out.1).mono ?_;rintro r wf ⟨rfl,hb⟩;replace HS:=Hi_ (HS.out.keep hb);clear hb;go_wp2;exact⟨rfl,.mkBad (HEQ.out) HS.out.grew⟩
theorem c2F(l:List Tok)(lv:Value)(E g d:Nat)(D:Int)(p:Nat)(w0 w:World)(hl:Sl b1V w0 lv l)(hn:l.length≤6000)(hok:∀t∈l,b0r t)(hm:∀t∈l,t.text.size≤maxLen)(hg:w0.heap.size≤g)(_hp:p≤l.length)(h0:Bel w0 w)(h:Ps w g lv p E)
  (hi:b0H (tx l p false)=false) (h1:tx l p false=b1n) :
  Calls Tryz.prog 184 #[.pointer (some ⟨g,0,none⟩),.int .i64 D] w fun r w'=>b2H w g lv l E (b0K l E d (p,false)) r w':=by
 have HHE:=Hi_ (b1O l lv p E g (w.alloc (.cells #[.int .i64 0,.int .i64 0,.int .i64 0,.string ⟨#[]⟩,.slice none 0 0] 49)) ((hl.keep h0).keep ((Bel.rfl_ w).al _)) hn (h.keep ((Bel.rfl_ w).al _)));have HNM:=Hi_ (fun W (hb:Bel w0 W) (h:Ps W g lv p E)=>b3J l lv p E g W (hl.keep hb) hn hm h hi);have HSE:=Hi_ (kSE (E:=E) (g:=g) hl hn);have HTN:=Hi_ (kTN (E:=E) (g:=g) hl hn);have HTY:=Hi_ (kTY (E:=E) (g:=g) hl hn);have HFL:=Hi_ (kFL (E:=E) (g:=g) hl hn);have HNA:=Hi_ (kNA (E:=E) hl hn hm hg);have HNU:=Hi_ (kNU (E:=E) hl hn hok hg);have HND:=Hi_ (fun W (k q:Nat) (s:ByteArray) (hb:Bel w0 W) (h:Ps W g lv k E) (hs:s≠emp) (hB:Blk W q 9 #[.string s]) (hq:q≠g)=>b2g l lv k E g q [s] w0 W hl hn hb hg h (by simpa using hs) (by simp) hB hq);have HOP:=Hi_ (kOP (E:=E) hl hn hg);have h40:tx l p false≠b0T:=by rw[h1];decide
 have HT:=Hi_ (decide_eq_false h40);have HT2:=Hi_ h1;have hlt:=b3E (l:=l) (p:=p) (f:=false) (by rw[h1];decide);have HEQ:=Hi_ (b2o (E:=E) (d:=d) h40 h1);rw[b0G h1] at HEQ;clear h1 h40;clear hi;go_enter Tryz.func184,Tryz.ntmps184;go_wp2_with fail
 refine HHE.out.mono ?_;rintro r w1 ⟨rfl,hb⟩;have HS:=Hi_ (BlP.start (p:=p) h 49 #[.int .i64 0,.int .i64 0,.int .i64 0,.string ⟨#[]⟩,.slice none 0 0] #[.int .i64 1,.int .i64 (place l E p),.int .i64 0,.string ⟨#[]⟩,.slice none 0 0] hb);clear hb HHE h;go_upto_region 2 with fail;generalize w1.alloc (.cells #[.int .i64 1,.int .i64 (place l E p),.int .i64 0,.string ⟨#[]⟩,.slice none 0 0] 49)=W2 at *;generalize w1.heap.size=Q at *;go_wp2_with fail
 refine(HNM.out _ (HS.out.bel h0 hg) HS.out.1).mono ?_;rintro r w2 ⟨rfl,hb⟩;replace HS:=Hi_ (HS.out.keep hb);clear hb HNM;go_wp2_with fail
 refine(HSE.out _ p b0T false (by decide) HT.out (HS.out.bel h0 hg) HS.out.1).mono ?_;rintro r ws ⟨rfl,hb⟩;replace HS:=Hi_ (HS.out.keep hb);clear hb;go_wp2_with fail
 refine(HTY.out _ p b1n (by decide) HT2.out (HS.out.bel h0 hg) HS.out.1).mono ?_;rintro r w3 ⟨rfl,hp3,hg3⟩;replace HS:=Hi_ (HS.out.grown hg3 hp3);clear hp3 hg3;by_cases hz:tx l (p+1) false=b3C
 ·have HZ:=Hi_ (decide_eq_true hz);have HE2:Hid ((b0K l E d (p,false)).2=(p+1,true)):=Hi_ (by rw[HEQ.out];dsimp only;rw[decide_eq_true hz];exact congrArg Prod.snd b8q);clear hz;go_wp2_with fail
  refine(HSE.out _ (p+1) b3C true (by decide) HZ.out (HS.out.bel h0 hg) HS.out.1).mono ?_;rintro r ws ⟨rfl,hb⟩;replace HS:=Hi_ (HS.out.keep hb);clear hb;go_wp2_with fail
  refine(HFL.out _ (p+1) (HS.out.bel h0 hg) HS.out.1).mono ?_;rintro r wf ⟨rfl,hb⟩;replace HS:=Hi_ (HS.out.keep hb);clear hb;go_wp2;exact⟨rfl,.mkBad (HE2.out) HS.out.grew⟩
 ·have HZ:=Hi_ (decide_eq_false hz);replace HEQ:Hid (b0K l E d (p,false)=(.mk 1 (place l E p) (-(b2w l (p+1,false)).1) emp [],(b2w l (p+1,false)).2)):=Hi_ (by rw[HEQ.out,decide_eq_false hz];rfl);have hnb:=(b3o (q:=(p+1,false)) hok (by omega)).2;clear hz;go_wp2_with fail
  refine(HSE.out _ (p+1) b3C false (by decide) HZ.out (HS.out.bel h0 hg) HS.out.1).mono ?_;rintro r ws ⟨rfl,hb⟩;replace HS:=Hi_ (HS.out.keep hb);clear hb;go_wp2_with fail
  refine(HNU.out _ (p+1) (HS.out.bel h0 hg) HS.out.1).mono ?_;rintro r w5 hres;generalize b2w l (p+1,false)=m at *;obtain⟨n5,q5,f5⟩:=m;dsimp only at *;cases f5 with
  | true =>
   obtain⟨hg5,rfl⟩:=hres.bad rfl;have HG5:=Hi_ (HS.out.grew.trans hg5);clear hg5 hres;go_wp2;exact⟨rfl,.mkBad (by rw[HEQ.out]) HG5.out⟩
  | false =>
   obtain⟨hg5,hp5,rfl⟩:=hres.good rfl;replace HS:=Hi_ (HS.out.grown hg5 hp5);clear hg5 hp5 hres;have c2:=HS.out.cell 2 rfl;have g2:=HS.out.frozen 2;go_upto_region 29 with fail;replace HS:=Hi_ ((HS.out.put 2 (.int .i64 (-n5))).to (cs':=#[.int .i64 1,.int .i64 (place l E p),.int .i64 (-n5),.string ⟨#[]⟩,.slice none 0 0]) rfl);generalize World.setCell _ _ _=WP at *;clear c2 g2;go_upto_region 29 with fail;refine b0k 49 (.tmp 5) (.tmp 4) (.tmp 126) rfl rfl rfl rfl Q w.heap.size rfl 49 _ _ HS.out.2.1 HS.out.2.2.1 rfl rfl _ Tryz.underlying49 rfl (by kernel_rfl) rfl (by simp[Value.oneCell']) ?_;have HF:=Hi_ (HS.out.row_);generalize World.setRow _ _ _=W99 at *;go_wp2;have hlt3:=HF.out.lt;refine bodyPost_ret (results_cell_row rfl _ _ w.heap.size 49 _ (0,0) _ rfl HF.out.2.2.1 Tryz.underlying49 rfl (by kernel_rfl)) rfl (b2H.mk (args:=[]) HEQ.out HF.out.grew HF.out.1 (Nat.zero_le _) (Sl.nil_ _ _))
theorem c3x(l:List Tok)(lv:Value)(E g d:Nat)(D:Int)(p:Nat)(w0 w:World)(hl:Sl b1V w0 lv l)(hn:l.length≤6000)(hok:∀t∈l,b0r t)(hm:∀t∈l,t.text.size≤maxLen)(hg:w0.heap.size≤g)(_hp:p≤l.length)(h0:Bel w0 w)(h:Ps w g lv p E)
  (hi:b0H (tx l p false)=false) (h3:b3i (tx l p false)=true) :
  Calls Tryz.prog 184 #[.pointer (some ⟨g,0,none⟩),.int .i64 D] w fun r w'=>b2H w g lv l E (b0K l E d (p,false)) r w':=by
 have HHE:=Hi_ (b1O l lv p E g (w.alloc (.cells #[.int .i64 0,.int .i64 0,.int .i64 0,.string ⟨#[]⟩,.slice none 0 0] 49)) ((hl.keep h0).keep ((Bel.rfl_ w).al _)) hn (h.keep ((Bel.rfl_ w).al _)));have HNM:=Hi_ (fun W (hb:Bel w0 W) (h:Ps W g lv p E)=>b3J l lv p E g W (hl.keep hb) hn hm h hi);have HSE:=Hi_ (kSE (E:=E) (g:=g) hl hn);have HTN:=Hi_ (kTN (E:=E) (g:=g) hl hn);have HTY:=Hi_ (kTY (E:=E) (g:=g) hl hn);have HFL:=Hi_ (kFL (E:=E) (g:=g) hl hn);have HNA:=Hi_ (kNA (E:=E) hl hn hm hg);have HNU:=Hi_ (kNU (E:=E) hl hn hok hg);have HND:=Hi_ (fun W (k q:Nat) (s:ByteArray) (hb:Bel w0 W) (h:Ps W g lv k E) (hs:s≠emp) (hB:Blk W q 9 #[.string s]) (hq:q≠g)=>b2g l lv k E g q [s] w0 W hl hn hb hg h (by simpa using hs) (by simp) hB hq);have HOP:=Hi_ (kOP (E:=E) hl hn hg);have h40:tx l p false≠b0T:=fun e=>by rw[e] at h3;exact absurd h3 (by decide +kernel)
 have h45:tx l p false≠b1n:=fun e=>by rw[e] at h3;exact absurd h3 (by decide +kernel)
 have HT:=Hi_ (decide_eq_false h40);have HT2:=Hi_ h45;have HLT:=Hi_ (show p<l.length from Decidable.byContradiction fun h=>by rw[b9O h] at h3;cases h3);have HEQ:=Hi_ (b3X (E:=E) (d:=d) h40 h45 h3);have HN:=Hi_ (b5b h3);have H3:=Hi_ h3;clear h3 h40 h45;clear hi;go_enter Tryz.func184,Tryz.ntmps184;go_wp2_with fail
 refine HHE.out.mono ?_;rintro r w1 ⟨rfl,hb⟩;have HS:=Hi_ (BlP.start (p:=p) h 49 #[.int .i64 0,.int .i64 0,.int .i64 0,.string ⟨#[]⟩,.slice none 0 0] #[.int .i64 1,.int .i64 (place l E p),.int .i64 0,.string ⟨#[]⟩,.slice none 0 0] hb);clear hb HHE h;go_upto_region 2 with fail;generalize w1.alloc (.cells #[.int .i64 1,.int .i64 (place l E p),.int .i64 0,.string ⟨#[]⟩,.slice none 0 0] 49)=W2 at *;generalize w1.heap.size=Q at *;go_wp2_with fail
 refine(HNM.out _ (HS.out.bel h0 hg) HS.out.1).mono ?_;rintro r w2 ⟨rfl,hb⟩;replace HS:=Hi_ (HS.out.keep hb);clear hb HNM;go_wp2_with fail
 refine(HSE.out _ p b0T false (by decide) HT.out (HS.out.bel h0 hg) HS.out.1).mono ?_;rintro r ws ⟨rfl,hb⟩;replace HS:=Hi_ (HS.out.keep hb);clear hb;go_wp2_with fail
 refine(HTN.out _ p b1n (by decide) HT2.out (HS.out.bel h0 hg) HS.out.1).mono ?_;rintro r wt ⟨rfl,hb⟩;replace HS:=Hi_ (HS.out.keep hb);clear hb;go_upto_region 27 with fail;go_cut [98] from 99 to 122 (fun u wx=>u=.bool true∧Hid (BlP w wx wx g lv E p 49 w.heap.size Q #[.int .i64 0,.int .i64 0,.int .i64 0,.string ⟨#[]⟩,.slice none 0 0] #[.int .i64 1,.int .i64 (place l E p),.int .i64 0,.string ⟨#[]⟩,.slice none 0 0]))
 case first =>
  obtain⟨y0,y1,-,-⟩:=HS.out.1.go;obtain⟨t,hx⟩:∃t,l[p]? = some t:=⟨_,List.getElem?_eq_getElem HLT.out⟩;obtain⟨A,c,rfl,_,_,hA⟩:=hl;obtain⟨b,o,rfl,hcs⟩:=hA (by have:=HLT.out;omega);obtain⟨x0',-,-⟩:=b1V.cells hcs hx;have x0:=(HS.out.bel h0 hg).cell x0';have hk:=b6b hok hx;have d1:decide ((p:Int)<l.length)=true:=decide_eq_true (by have:=HLT.out;omega);rw[H3.out] at hk;rw[of_decide_eq_true hk.symm] at x0;have hlt:=HLT.out;clear hcs hA x0' hx hk;go_quiet (fail)
  go_wp2;go_meet
  exact⟨rfl,Hi_ ((HS.out.keep ((Bel.rfl_ _).drN _)).fresh)⟩
 case rest =>
  obtain⟨rfl,HS⟩:=hcut;go_wp2_with fail
  refine(HNU.out _ p (HS.out.bel h0 hg) HS.out.1).mono ?_;rintro r w5 hres;rw[HN.out] at hres HEQ;dsimp only at hres HEQ;obtain⟨hg5,hp5,rfl⟩:=hres.good rfl;replace HS:=Hi_ (HS.out.grown hg5 hp5);clear hg5 hp5 hres;generalize c0E (tx l p false)=n5 at *;have c2:=HS.out.cell 2 rfl;have g2:=HS.out.frozen 2;go_upto_region 29 with fail;replace HS:=Hi_ ((HS.out.put 2 (.int .i64 n5)).to (cs':=#[.int .i64 1,.int .i64 (place l E p),.int .i64 n5,.string ⟨#[]⟩,.slice none 0 0]) rfl);generalize World.setCell _ _ _=WP at *;clear c2 g2;go_upto_region 29 with fail;refine b0k 49 (.tmp 5) (.tmp 4) (.tmp 126) rfl rfl rfl rfl Q w.heap.size rfl 49 _ _ HS.out.2.1 HS.out.2.2.1 rfl rfl _ Tryz.underlying49 rfl (by kernel_rfl) rfl (by simp[Value.oneCell']) ?_;have HF:=Hi_ (HS.out.row_);generalize World.setRow _ _ _=W99 at *;go_wp2;have hlt3:=HF.out.lt;refine bodyPost_ret (results_cell_row rfl _ _ w.heap.size 49 _ (0,0) _ rfl HF.out.2.2.1 Tryz.underlying49 rfl (by kernel_rfl)) rfl (b2H.mk (args:=[]) HEQ.out HF.out.grew HF.out.1 (Nat.zero_le _) (Sl.nil_ _ _))
theorem c2H(l:List Tok)(lv:Value)(E g d:Nat)(D:Int)(p:Nat)(w0 w:World)(hl:Sl b1V w0 lv l)(hn:l.length≤6000)(hok:∀t∈l,b0r t)(hm:∀t∈l,t.text.size≤maxLen)(hg:w0.heap.size≤g)(hp:p≤l.length)(h0:Bel w0 w)(h:Ps w g lv p E)
  (hi:b0H (tx l p false)=true) (h4:tx l (p+1) false≠b1o) :
  Calls Tryz.prog 184 #[.pointer (some ⟨g,0,none⟩),.int .i64 D] w fun r w'=>b2H w g lv l E (b0K l E d (p,false)) r w':=by
 have HHE:=Hi_ (b1O l lv p E g (w.alloc (.cells #[.int .i64 0,.int .i64 0,.int .i64 0,.string ⟨#[]⟩,.slice none 0 0] 49)) ((hl.keep h0).keep ((Bel.rfl_ w).al _)) hn (h.keep ((Bel.rfl_ w).al _)));have HNM:=Hi_ (fun W (hb:Bel w0 W) (h:Ps W g lv p E)=>b3J l lv p E g W (hl.keep hb) hn hm h hi);have HSE:=Hi_ (kSE (E:=E) (g:=g) hl hn);have HTN:=Hi_ (kTN (E:=E) (g:=g) hl hn);have HTY:=Hi_ (kTY (E:=E) (g:=g) hl hn);have HFL:=Hi_ (kFL (E:=E) (g:=g) hl hn);have HNA:=Hi_ (kNA (E:=E) hl hn hm hg);have HNU:=Hi_ (kNU (E:=E) hl hn hok hg);have HND:=Hi_ (fun W (k q:Nat) (s:ByteArray) (hb:Bel w0 W) (h:Ps W g lv k E) (hs:s≠emp) (hB:Blk W q 9 #[.string s]) (hq:q≠g)=>b2g l lv k E g q [s] w0 W hl hn hb hg h (by simpa using hs) (by simp) hB hq);have HOP:=Hi_ (kOP (E:=E) hl hn hg);have HBH:=Hi_ (fun W (hb:Bel w0 W) (h:Ps W g lv p E)=>b4h l lv p E g W (hl.keep hb) hn hp h);have e91:((tx l (p+1) false).toList==[91])=false:=b0L h4;obtain⟨n1,n2,n3⟩:=b7L hi;have HN:=Hi_ (b0j hi);have HEQ:=Hi_ (b2K (E:=E) (d:=d) n1 n2 n3 (by rw[b0j hi];exact h4));rw[HN.out] at HEQ;have HT:=Hi_ (decide_eq_false n1);have HT2:=Hi_ n2;have H3:=Hi_ n3;clear h4 n1 n2 n3;clear hi;go_enter Tryz.func184,Tryz.ntmps184;go_wp2_with fail
 refine HHE.out.mono ?_;rintro r w1 ⟨rfl,hb⟩;have HS:=Hi_ (BlP.start (p:=p) h 49 #[.int .i64 0,.int .i64 0,.int .i64 0,.string ⟨#[]⟩,.slice none 0 0] #[.int .i64 1,.int .i64 (place l E p),.int .i64 0,.string ⟨#[]⟩,.slice none 0 0] hb);clear hb HHE h;go_upto_region 2 with fail;generalize w1.alloc (.cells #[.int .i64 1,.int .i64 (place l E p),.int .i64 0,.string ⟨#[]⟩,.slice none 0 0] 49)=W2 at *;generalize w1.heap.size=Q at *;go_wp2_with fail
 refine(HNM.out _ (HS.out.bel h0 hg) HS.out.1).mono ?_;rintro r w2 ⟨rfl,hb⟩;replace HS:=Hi_ (HS.out.keep hb);clear hb HNM;go_wp2_with fail
 refine(HBH.out _ (HS.out.bel h0 hg) HS.out.1).mono ?_;rintro r w2' ⟨rfl,hb⟩;replace HS:=Hi_ (HS.out.keep hb);clear hb HBH;go_wp2_with fail
 refine(HSE.out _ p b0T false (by decide) HT.out (HS.out.bel h0 hg) HS.out.1).mono ?_;rintro r ws ⟨rfl,hb⟩;replace HS:=Hi_ (HS.out.keep hb);clear hb;go_wp2_with fail
 refine(HTN.out _ p b1n (by decide) HT2.out (HS.out.bel h0 hg) HS.out.1).mono ?_;rintro r wt ⟨rfl,hb⟩;replace HS:=Hi_ (HS.out.keep hb);clear hb;go_upto_region 27 with fail;go_cut [98] from 99 to 122 (fun u wx=>u=.bool false∧Hid (BlP w wx wx g lv E p 49 w.heap.size Q #[.int .i64 0,.int .i64 0,.int .i64 0,.string ⟨#[]⟩,.slice none 0 0] #[.int .i64 1,.int .i64 (place l E p),.int .i64 0,.string ⟨#[]⟩,.slice none 0 0]))
 case first =>
  obtain⟨y0,y1,-,-⟩:=HS.out.1.go;by_cases hlt:p<l.length
  ·have HLT:=Hi_ hlt;obtain⟨t,hx⟩:∃t,l[p]? = some t:=⟨_,List.getElem?_eq_getElem HLT.out⟩;obtain⟨A,c,rfl,_,_,hA⟩:=hl;obtain⟨b,o,rfl,hcs⟩:=hA (by have:=HLT.out;omega);obtain⟨x0',-,-⟩:=b1V.cells hcs hx;have x0:=(HS.out.bel h0 hg).cell x0';have hk:=b6b hok hx;have d1:decide ((p:Int)<l.length)=true:=decide_eq_true (by have:=HLT.out;omega);rw[H3.out] at hk
   have hk2:(t.kind==2)=false:=by
    have:=of_decide_eq_false hk.symm
    simpa using this
   clear hcs hA x0' hx hk;go_quiet (fail)
   go_wp2;go_meet
   exact⟨rfl,Hi_ ((HS.out.keep ((Bel.rfl_ _).drN _)).fresh)⟩
  ·have d1:decide ((p:Int)<l.length)=false:=decide_eq_false (by omega);obtain⟨A,c,rfl,_,_,-⟩:=hl;go_quiet (fail)
   go_wp2;go_meet
   exact⟨rfl,Hi_ ((HS.out.keep ((Bel.rfl_ _).drN _)).fresh)⟩
 case rest =>
  obtain⟨rfl,HS⟩:=hcut;have c0:=HS.out.cell 0 rfl;have g0:=HS.out.frozen 0;go_upto_region 7 with fail;replace HS:=Hi_ ((HS.out.put 0 (.int .i64 2)).to (cs':=#[.int .i64 2,.int .i64 (place l E p),.int .i64 0,.string ⟨#[]⟩,.slice none 0 0]) rfl);generalize World.setCell _ _ _=WP at *;clear c0 g0;go_wp2_with fail
  refine(HNA.out _ p (HS.out.bel h0 hg) HS.out.1).mono ?_;rintro r w5 hres;rw[HN.out] at hres;dsimp only at hres;obtain⟨hg5,hp5,rfl⟩:=hres.good rfl;replace HS:=Hi_ (HS.out.grown hg5 hp5);clear hg5 hp5 hres;have c3:=HS.out.cell 3 rfl;have g3:=HS.out.frozen 3;go_upto_region 29 with fail;replace HS:=Hi_ ((HS.out.put 3 (.string (tx l p false))).to (cs':=#[.int .i64 2,.int .i64 (place l E p),.int .i64 0,.string (tx l p false),.slice none 0 0]) rfl);generalize World.setCell _ _ _=WP at *;clear c3 g3;go_upto_region 29 with fail;refine b0k 49 (.tmp 5) (.tmp 4) (.tmp 126) rfl rfl rfl rfl Q w.heap.size rfl 49 _ _ HS.out.2.1 HS.out.2.2.1 rfl rfl _ Tryz.underlying49 rfl (by kernel_rfl) rfl (by simp[Value.oneCell']) ?_;have HF:=Hi_ (HS.out.row_);generalize World.setRow _ _ _=W99 at *;go_wp2;have hlt3:=HF.out.lt;refine bodyPost_ret (results_cell_row rfl _ _ w.heap.size 49 _ (0,0) _ rfl HF.out.2.2.1 Tryz.underlying49 rfl (by kernel_rfl)) rfl (b2H.mk (args:=[]) HEQ.out HF.out.grew HF.out.1 (b1w hm) (Sl.nil_ _ _))
theorem c2I(l:List Tok)(lv:Value)(E g d:Nat)(D:Int)(p:Nat)(w0 w:World)(hl:Sl b1V w0 lv l)(hn:l.length≤6000)(hok:∀t∈l,b0r t)(hm:∀t∈l,t.text.size≤maxLen)(hg:w0.heap.size≤g)(hp:p≤l.length)(h0:Bel w0 w)(h:Ps w g lv p E)
  (hi:b0H (tx l p false)=false) (n1:tx l p false≠b0T) (n2:tx l p false≠b1n) (n3:b3i (tx l p false)=false) :
  Calls Tryz.prog 184 #[.pointer (some ⟨g,0,none⟩),.int .i64 D] w fun r w'=>b2H w g lv l E (b0K l E d (p,false)) r w':=by
 have HHE:=Hi_ (b1O l lv p E g (w.alloc (.cells #[.int .i64 0,.int .i64 0,.int .i64 0,.string ⟨#[]⟩,.slice none 0 0] 49)) ((hl.keep h0).keep ((Bel.rfl_ w).al _)) hn (h.keep ((Bel.rfl_ w).al _)));have HNM:=Hi_ (fun W (hb:Bel w0 W) (h:Ps W g lv p E)=>b3J l lv p E g W (hl.keep hb) hn hm h hi);have HSE:=Hi_ (kSE (E:=E) (g:=g) hl hn);have HTN:=Hi_ (kTN (E:=E) (g:=g) hl hn);have HTY:=Hi_ (kTY (E:=E) (g:=g) hl hn);have HFL:=Hi_ (kFL (E:=E) (g:=g) hl hn);have HNA:=Hi_ (kNA (E:=E) hl hn hm hg);have HNU:=Hi_ (kNU (E:=E) hl hn hok hg);have HND:=Hi_ (fun W (k q:Nat) (s:ByteArray) (hb:Bel w0 W) (h:Ps W g lv k E) (hs:s≠emp) (hB:Blk W q 9 #[.string s]) (hq:q≠g)=>b2g l lv k E g q [s] w0 W hl hn hb hg h (by simpa using hs) (by simp) hB hq);have HOP:=Hi_ (kOP (E:=E) hl hn hg);have HN:=Hi_ (b4m hi);have HEQ:Hid ((b0K l E d (p,false)).2=(p,true)):=Hi_ (by rw[b2K n1 n2 n3 (by rw[b4m hi,b4D];decide),b4m hi]);have HT:=Hi_ (decide_eq_false n1);have HT2:=Hi_ n2;have H3:=Hi_ n3;clear n1 n2 n3;clear hi;go_enter Tryz.func184,Tryz.ntmps184;go_wp2_with fail
 refine HHE.out.mono ?_;rintro r w1 ⟨rfl,hb⟩;have HS:=Hi_ (BlP.start (p:=p) h 49 #[.int .i64 0,.int .i64 0,.int .i64 0,.string ⟨#[]⟩,.slice none 0 0] #[.int .i64 1,.int .i64 (place l E p),.int .i64 0,.string ⟨#[]⟩,.slice none 0 0] hb);clear hb HHE h;go_upto_region 2 with fail;generalize w1.alloc (.cells #[.int .i64 1,.int .i64 (place l E p),.int .i64 0,.string ⟨#[]⟩,.slice none 0 0] 49)=W2 at *;generalize w1.heap.size=Q at *;go_wp2_with fail
 refine(HNM.out _ (HS.out.bel h0 hg) HS.out.1).mono ?_;rintro r w2 ⟨rfl,hb⟩;replace HS:=Hi_ (HS.out.keep hb);clear hb HNM;go_wp2_with fail
 refine(HSE.out _ p b0T false (by decide) HT.out (HS.out.bel h0 hg) HS.out.1).mono ?_;rintro r ws ⟨rfl,hb⟩;replace HS:=Hi_ (HS.out.keep hb);clear hb;go_wp2_with fail
 refine(HTN.out _ p b1n (by decide) HT2.out (HS.out.bel h0 hg) HS.out.1).mono ?_;rintro r wt ⟨rfl,hb⟩;replace HS:=Hi_ (HS.out.keep hb);clear hb;go_upto_region 27 with fail;go_cut [98] from 99 to 122 (fun u wx=>u=.bool false∧Hid (BlP w wx wx g lv E p 49 w.heap.size Q #[.int .i64 0,.int .i64 0,.int .i64 0,.string ⟨#[]⟩,.slice none 0 0] #[.int .i64 1,.int .i64 (place l E p),.int .i64 0,.string ⟨#[]⟩,.slice none 0 0]))
 case first =>
  obtain⟨y0,y1,-,-⟩:=HS.out.1.go;by_cases hlt:p<l.length
  ·have HLT:=Hi_ hlt;obtain⟨t,hx⟩:∃t,l[p]? = some t:=⟨_,List.getElem?_eq_getElem HLT.out⟩;obtain⟨A,c,rfl,_,_,hA⟩:=hl;obtain⟨b,o,rfl,hcs⟩:=hA (by have:=HLT.out;omega);obtain⟨x0',-,-⟩:=b1V.cells hcs hx;have x0:=(HS.out.bel h0 hg).cell x0';have hk:=b6b hok hx;have d1:decide ((p:Int)<l.length)=true:=decide_eq_true (by have:=HLT.out;omega);rw[H3.out] at hk
   have hk2:(t.kind==2)=false:=by
    have:=of_decide_eq_false hk.symm
    simpa using this
   clear hcs hA x0' hx hk;go_quiet (fail)
   go_wp2;go_meet
   exact⟨rfl,Hi_ ((HS.out.keep ((Bel.rfl_ _).drN _)).fresh)⟩
  ·have d1:decide ((p:Int)<l.length)=false:=decide_eq_false (by omega);obtain⟨A,c,rfl,_,_,-⟩:=hl;go_quiet (fail)
   go_wp2;go_meet
   exact⟨rfl,Hi_ ((HS.out.keep ((Bel.rfl_ _).drN _)).fresh)⟩
 case rest =>
  obtain⟨rfl,HS⟩:=hcut;have c0:=HS.out.cell 0 rfl;have g0:=HS.out.frozen 0;go_upto_region 7 with fail;replace HS:=Hi_ ((HS.out.put 0 (.int .i64 2)).to (cs':=#[.int .i64 2,.int .i64 (place l E p),.int .i64 0,.string ⟨#[]⟩,.slice none 0 0]) rfl);generalize World.setCell _ _ _=WP at *;clear c0 g0;go_wp2_with fail
  refine(HNA.out _ p (HS.out.bel h0 hg) HS.out.1).mono ?_;rintro r w5 hres;rw[HN.out] at hres;dsimp only at hres;obtain⟨hg5,rfl⟩:=hres.bad rfl;have HG5:=Hi_ (HS.out.grew.trans hg5);clear hg5 hres;go_wp2;exact⟨rfl,.mkBad (by rw[HEQ.out]) HG5.out⟩
end Go.Proofs.YtmfjlcpjemccmaaGreatDoor
