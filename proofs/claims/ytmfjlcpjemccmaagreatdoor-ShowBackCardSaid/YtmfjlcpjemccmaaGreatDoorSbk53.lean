/- What a right tree is shown as is parsed to the same tree: plain words. Each lemma states its own conditions. -/
import Derived.Test.YtmfjlcpjemccmaaGreatDoorSbk52
import Derived.SizedLaws
import Derived.Deep.Slices
import Derived.OpenShut
import Derived.Test.YtmfjlcpjemccmaaGreatDoorRows
namespace Go.Proofs.YtmfjlcpjemccmaaGreatDoor
set_option maxRecDepth 20000
set_option maxHeartbeats 8000000
open Go.RowKit
section
variable {l:List Tok}{E:Nat}
theorem b9o{cs:List TC}{s:ByteArray}{p:Nat}(ho:b1l cs=true)(hat:Ats l p (b1U cs))(he:tx l (p+(b1U cs).length) false=s)(h1:s≠b7d)(h2:s≠b5t):tx l p false≠b7d∧tx l p false≠b5t:=by
 cases cs with
 | nil =>
  have he2:tx l p false=s:=he;rw[he2];exact⟨h1,h2⟩
 | cons x cs =>
  rw[b1l,Bool.and_eq_true] at ho;rw[b1U] at hat;have:=b6x ho.1 hat.app.1;exact⟨b6d this (by decide +kernel) (by decide) (by decide) (by decide),b6d this (by decide +kernel) (by decide) (by decide) (by decide)⟩
theorem c5B{f:TF}(ho:f.ok false=true)(hb:f.big=false)(hf:b1H f.cmds 1=true){p:Nat}(hp:p≤l.length)(hat:Ats l p (f.toks false)):∃f',b5W l E (p,false)=(f',(p+(f.toks false).length,false))∧f.same false f'=true:=by
 obtain⟨at_,nm,ps,vs,cs,r⟩:=f;unfold TF.ok at ho;unfold TF.big at hb;simp only[Bool.and_eq_true,Bool.false_eq_true,if_false,Bool.or_eq_false_iff,decide_eq_false_iff_not] at ho hb hf;obtain⟨⟨⟨⟨h1,h2⟩,h3⟩,h4⟩,h5⟩:=ho;obtain⟨⟨b1,b2⟩,b3⟩:=hb;rw[←b1u] at h5;have hlen:=hat.len hp
 have et:TF.toks ⟨at_,nm,ps,vs,cs,r⟩ false=(1,b2b)::(1,nm)::(3,b0T)::(b4V (ps.map fun s=>[(1,s)])++(3,b0Y)::(3,b0u)::(b3l vs++(b1U cs++(1,b1A)::(r.toks++[(3,b0s),(3,b0v)])))):=by
  unfold TF.toks;simp
 rw[et] at hat hlen ⊢;have t0:tx l p false=b2b:=hat.head;have t1:tx l (p+1) false=nm:=hat.tail.head;have t2:tx l (p+1+1) false=b0T:=hat.tail.tail.head;obtain⟨a1,a2⟩:=hat.tail.tail.tail.app;have t3:=a2.head;have t4:=a2.tail.head;obtain⟨a3,a4⟩:=a2.tail.tail.app;obtain⟨a5,a6⟩:=a4.app;have t5:=a6.head;obtain⟨a7,a8⟩:=a6.tail.app;have t6:=a8.head;have t7:=a8.tail.head;simp only[] at t3 t4 t5 t6 t7;simp only[List.length_cons,List.length_append,List.length_nil] at hlen;have hc:=b6y cs h5;have g1:=c1y (n:=l.length+1) (fun x hx=>List.all_eq_true.1 h3 x hx) (by omega) a1 t3;obtain⟨n1,n2⟩:=b9o h5 a5 t5 (by decide) (by decide);have g2:=b6I vs h4 (l.length+1) _ (by omega) a3 n1 n2;obtain⟨cs',g3,g4⟩:=b4k (E:=E) (Or.inr rfl) cs (fun x _=>b9K x) h5 hf (l.length+1) _ (by omega) (by omega) a5 t5;obtain⟨r',g5,g6⟩:=b2F (E:=E) r h2 60 _ (b5U (by rw[b3];rfl)) a7 (by rw[t6];decide);refine⟨⟨place l E p,nm,ps,vs,cs',r'⟩,?_,?_⟩
 ·rw[b9S t0,b0j (by rw[t1];exact h1),t1];simp only[];rw[b0G t2,g1];simp only[];rw[b0G t3,b0G t4,g2];simp only[];rw[g3];simp only[];rw[b0G t5,g5];simp only[];rw[b0G t6,b0G t7];simp only[List.length_cons,List.length_append,List.length_nil]
  congr 2
  omega
 ·unfold TF.same;simp only[];rw[g4,g6];simp
theorem c1r{f:TF}(ho:f.ok true=true)(hb:f.big=false)(hf:b1H f.cmds 1=true){p:Nat}(hp:p≤l.length)(hat:Ats l p (f.toks true)):tx l p false=b3b∧∃f',b9Y l E (p,false)=(f',(p+(f.toks true).length,false))∧f.same false f'=true:=by
 obtain⟨at_,nm,ps,vs,cs,r⟩:=f;unfold TF.ok at ho;unfold TF.big at hb;simp only[Bool.and_eq_true,if_true,Bool.or_eq_false_iff,decide_eq_false_iff_not,decide_eq_true_eq] at ho hb hf;obtain⟨⟨⟨⟨⟨rfl,h1⟩,h2⟩,h3⟩,h4⟩,h5⟩:=ho;obtain rfl:=List.eq_nil_of_length_eq_zero h2;obtain⟨⟨b1,b2⟩,b3⟩:=hb;rw[←b1u] at h5;have hlen:=hat.len hp
 have et:TF.toks ⟨at_,emp,[],vs,cs,r⟩ true=(1,b3b)::(3,b0u)::(b3l vs++(b1U cs++[(3,b0v)])):=by
  unfold TF.toks;simp
 rw[et] at hat hlen ⊢;have t0:tx l p false=b3b:=hat.head;have t1:tx l (p+1) false=b0u:=hat.tail.head;obtain⟨a3,a4⟩:=hat.tail.tail.app;obtain⟨a5,a6⟩:=a4.app;have t5:=a6.head;simp only[] at t5;simp only[List.length_cons,List.length_append,List.length_nil] at hlen;have hc:=b6y cs h5;obtain⟨n1,n2⟩:=b9o h5 a5 t5 (by decide) (by decide)
 have hvl:vs.length≤(b3l vs).length:=by
  have:∀vs:List TV,vs.length≤(b3l vs).length:=fun vs=>by
   induction vs with
   | nil=>exact Nat.zero_le _
   | cons v vs ih =>
    rw[b3l,List.length_append,List.length_cons]
    have:1≤v.toks.length:=by
     unfold TV.toks;split<;>(rw[List.length_cons];omega)
    omega
  exact this vs
 have g2:=b6I vs h4 (l.length+1) _ (by omega) a3 n1 n2;obtain⟨cs',g3,g4⟩:=b4k (E:=E) (Or.inl rfl) cs (fun x _=>b9K x) h5 hf (l.length+1) _ (by omega) (by omega) a5 t5;refine⟨t0,⟨place l E p,emp,[],vs,cs',b1P⟩,?_,?_⟩
 ·unfold b9Y;simp only[];rw[b0G t0,b0G t1,g2];simp only[];rw[g3];simp only[];rw[b0G t5];simp only[List.length_cons,List.length_append,List.length_nil]
  congr 2
  omega
 ·unfold TF.same;simp only[];rw[g4,b2T h1];simp
theorem c0y:∀(t:List TF),t≠[]→b4R t=true→(∀f∈t,f.big=false∧b1H f.cmds 1=true)→∀(n p:Nat),t.length≤n→p≤l.length→Ats l p (b3k t) →
  ∃fs q m,b1x l E n (p,false)=(fs,(q,false))∧b9Y l E (q,false)=(m,(p+(b3k t).length,false))∧b1X false t (fs++[m])=true
 | [],h,_,_,_,_,_,_,_=>absurd rfl h
 | [f],_,ho,hs,n,p,_,hp,hat=>by
  rw[b3k,b3k,List.append_nil] at hat ⊢;obtain⟨b,c⟩:=hs f (by simp);obtain⟨t0,m,g1,g2⟩:=c1r (E:=E) (f:=f) ho b c hp hat;refine⟨[],p,m,b3Z (q:=(p,false)) (by rintro⟨_,h⟩;rw[t0] at h;exact absurd h (by decide)),g1,?_⟩;rw[List.nil_append,b1X,b1X,g2];rfl
 | f::g::t,_,ho,hs,n,p,hn,hp,hat=>by
  rw[b4R,Bool.and_eq_true] at ho;rw[List.length_cons] at hn;obtain⟨n,rfl⟩:∃m,n=m+1:=⟨n-1,by omega⟩;obtain⟨b,c⟩:=hs f (by simp);have hd:decide ((g::t).length=0)=false:=by simp
  rw[b3k,hd] at hat ⊢;obtain⟨a1,a2⟩:=hat.app;have hp2:=a1.len hp;obtain⟨f',g1,g2⟩:=c5B (E:=E) ho.1 b c hp a1;obtain⟨fs,q,m,g3,g4,g5⟩:=c0y (g::t) (by simp) ho.2 (fun y hy=>hs y (by simp only[List.mem_cons] at hy ⊢;exact Or.inr hy)) n _ (by omega) hp2 a2;have t0:tx l p false=b2b:=a1.head;refine⟨f'::fs,q,m,?_,?_,?_⟩
  ·rw[b7B (q:=(p,false)) rfl t0,g1];simp only[];rw[g3]
  ·rw[g4,List.length_append,Nat.add_assoc]
  ·rw[List.cons_append,b1X,g2,g5];rfl
end
theorem b5n:∀t:List TF,t.length≤(b3k t).length
 | []=>Nat.zero_le _
 | f::t=>by
  have:=b5n t
  have h1:1≤(f.toks (decide (t.length=0))).length:=by
   unfold TF.toks;split<;>(rw[List.length_append,List.length_cons];omega)
  rw[b3k,List.length_append,List.length_cons];omega
theorem c3N{t:List TF}(h:b4Q t=0):t≠[]∧b4R t=true∧∀f∈t,f.big=false∧b1H f.cmds 1=true:=by
 unfold b4Q at h;split at h
 ·cases h
 ·rename_i h1
  split at h
  ·cases h
  ·rename_i h2
   split at h
   ·rename_i h3
    refine⟨fun e=>h2 (by rw[e];rfl),h3,fun f hf=>?_⟩;unfold many c1s at h1;simp only[Bool.not_eq_true,Bool.or_eq_false_iff] at h1;obtain⟨_,⟨h4,h5⟩,_⟩:=h1;refine⟨?_,?_⟩
    ·cases hb:f.big with
     | false=>rfl
     | true=>rw[List.any_eq_true.2 ⟨f,hf,hb⟩] at h4;cases h4
    ·exact List.all_eq_true.1 (by simpa using h5) f hf
   ·cases h
theorem c2U{t:List TF}(h:b4Q t=0)(hs:(b1Z t).size≤6000):∃u,b1m (b1Z t)=(u,0,0)∧b1X false t u=true:=by
 obtain⟨h1,h2,h3⟩:=c3N h;obtain⟨m,e1,e2⟩:=c0a h2 hs;have hlen:m.length=(b3k t).length:=by rw[←e2,List.length_map]
 have hat:Ats m 0 (b3k t):=fun j x hx=>by
  rw[←e2,List.getElem?_map] at hx;rw[Nat.zero_add];exact hx
 obtain⟨fs,q,mm,g1,g2,g3⟩:=c0y (E:=(b1Z t).size) t h1 h2 h3 (m.length+1) 0 (by have:=b5n t;omega) (by omega) hat
 have ht:b2Q m (b1Z t).size=(fs++[mm],(m.length,false)):=by
  rw[c1S,g1];simp only[];rw[g2,Nat.zero_add,hlen]
 refine⟨fs++[mm],?_,g3⟩;unfold b1m;rw[e1];simp only[if_true];rw[ht];simp only[];rw[if_neg (by simp),if_pos (by rw[←c1g g3];exact h)]
theorem c3w{s:ByteArray}(h:(b1m s).2.2≠0):(b1m s).1=[]:=by
 unfold b1m at h ⊢;split at h
 ·rename_i h1
  rw[if_pos h1];split at h
  ·rename_i h2
   rw[if_pos h2]
  ·rename_i h2
   rw[if_neg h2];split at h
   ·exact absurd rfl h
   ·rename_i h3
    rw[if_neg h3]
 ·rename_i h1
  rw[if_neg h1]
theorem c4A{o:Oper}{ρ:Operand→Value}{W:World}{x y:Operand}{t2:TypeId}{k l:Int}{c:Bool}(ho:o.op=.binOp .leq 3 x y t2)(hx:ρ x=.int .i64 k)(hy:ρ y=.int .i64 l)(hc:decide (k≤l)=c):(execOp ρ o).run Tryz.prog W=.ok (.value (.bool c)) W:=by
 subst hc;simp[execOp,ho,hx,hy,go_sem]
theorem c2T(l:List TF)(u:Value)(s:ByteArray)(w:World)(h:Sl tfR w u l)(hm:s.size≤maxLen)(ht:Tab w) :
  Calls Tryz.prog 8 #[.agg #[u],.string s] w fun r w'=>r=.returned (.bool true)∧Bel w w':=by
 have HSB:=Hi_ (fun W (hb:Bel w W)=>b9B W (ht.keep hb));have HTB:=Hi_ (fun W=>b9D W);have HSH:=Hi_ (fun x v W (hs:Sl tfR W v x) (hb:Bel w W)=>c1M x v W hs (ht.keep hb));have HPA:=Hi_ (fun j (hj:j.size≤maxLen) W=>b5o j W hj)
 have HTE:Hid (∀x:List TF,(b6V x).size≤6000→b4Q x=0→∃y,b1m (b6V x)=(y,0,0)∧b1X false x y=true):=Hi_ (fun x h1 h2=>by
  have e:b6V x=b1Z x:=if_pos h2;rw[e] at h1 ⊢;exact c2U h2 h1)
 have HNO:=Hi_ (c3w (s:=s));have HOK:=Hi_ (c3v (s:=s));have HS0:=Hi_ h;have HS1:=Hi_ (HTE.out l);have HSE:=Hi_ (HSH.out l u);obtain⟨⟨x,a,e⟩,hx⟩:∃y,y=b1m s:=⟨_,rfl⟩;have HPS:=Hi_ (HPA.out s hm);rw[←hx] at HPS HNO HOK;dsimp only at HNO HOK;obtain⟨A,c,rfl,-⟩:=h;obtain⟨E,hE⟩:∃E,b4Q l=E:=⟨_,rfl⟩;obtain⟨T,hT⟩:∃T,b6V l=T:=⟨_,rfl⟩;rw[hE,hT] at HS1 HSE;clear ht hx hE hT hm;have HK1:=Hi_ (Blk.new w 24 #[.slice A l.length c]);have HX:=Hi_ ((Bel.rfl_ w).al (.cells #[.slice A l.length c] 24));go_enter Tryz.func8,Tryz.ntmps8;go_upto_region 1 with fail;generalize w.alloc (.cells #[.slice A l.length c] 24)=WA at *;generalize w.heap.size=K1 at *;go_wp2_with fail
 refine(HSB.out _ HX.out).mono ?_;rintro r w1 ⟨rfl,hb⟩;replace HX:=Hi_ (HX.out.tr hb);replace HK1:=Hi_ (HK1.out.keep hb);clear hb HSB;go_wp2_with fail
 refine(HTB.out _).mono ?_;rintro r w2 ⟨rfl,hb⟩;replace HX:=Hi_ (HX.out.tr hb);replace HK1:=Hi_ (HK1.out.keep hb);have k1:=HK1.out.cell (i:=0) (v:=.slice A l.length c) rfl;clear hb HTB;go_upto_region 3 with fail;refine b0E ?_;try dsimp only[List.append]
 refine b0R (some 21) (.agg #[.slice A l.length c]) (b4b rfl (by kernel_rfl) k1) ?_;refine b0W (some 22) 13 #[.agg #[.slice A l.length c]] (HSE.out _ (HS0.out.keep HX.out) HX.out) ?_;rintro r w3 ⟨rfl,hb⟩;replace HX:=Hi_ (HX.out.tr hb);replace HK1:=Hi_ (HK1.out.keep hb);clear hb HSE k1;refine⟨_,rfl,?_⟩;refine b0P (some 20) (.tuple #[.string T,.int .i64 E]) ?_;refine b0V 2 23 [.string T,.int .i64 E] ?_;refine b0V 2 5 [.string T,.int .i64 E] ?_;refine b0C ?_;try simp only[sP,Act.put,lA,lB,lC]
 go_upto_region 4 with fail;refine b0E ?_;try dsimp only[List.append]
 by_cases hE:E=0
 rotate_left;have d0:(E==0)=false:=by simpa using hE
 refine b0P (some 25) (.int .i64 E) ?_;refine b0R (some 26) (.bool false) (c6n rfl (by kernel_rfl) (by kernel_rfl) d0) ?_;refine b0V 5 27 [.bool false,uD,uD,uD,.bool false] ?_;refine b0C ?_;try simp only[sP,Act.put,lA,lB,lC]
 go_wp2_with fail
 clear d0 hE HS1 HS0 HK1;rotate_left;subst hE;refine b0V 5 25 [.int .i64 0,.bool true,.bool true,.string T,.int .i64 T.size] ?_;by_cases hsz:T.size≤6000
 rotate_left;refine b0R (some 30) (.bool false) (c4A rfl (by kernel_rfl) (by kernel_rfl) (show decide ((T.size:Int)≤6000)=false from decide_eq_false (by omega))) ?_;refine b0P (some 31) (.bool false) ?_;refine b0C ?_;try simp only[sP,Act.put,lA,lB,lC]
 go_wp2_with fail
 clear hsz HS1 HS0 HK1;rotate_left 2;refine b0R (some 30) (.bool true) (c4A rfl (by kernel_rfl) (by kernel_rfl) (show decide ((T.size:Int)≤6000)=true from decide_eq_true (by omega))) ?_;refine b0P (some 31) (.bool true) ?_;refine b0C ?_;try simp only[sP,Act.put,lA,lB,lC]
 go_wp2_with fail
 obtain⟨y,g1,g2⟩:=HS1.out hsz trivial;have HP1:=Hi_ (HPA.out T (by simp only[maxLen];omega));rw[g1] at HP1;clear HS1 hsz g1;refine(HP1.out _).mono ?_;rintro r w4 ⟨v,rfl,hsl,hb⟩;dsimp only at hsl;have hsl1:=b7H b0m hsl;replace HX:=Hi_ (HX.out.tr hb);replace HK1:=Hi_ (HK1.out.keep hb);obtain⟨B,d,rfl,-⟩:=id hsl1;clear hsl hb HP1;go_upto_region 6 with fail;have hba:=(Bel.rfl_ w4).al (.cells #[.slice B y.length d] 24);have HK2:=Hi_ (Blk.new w4 24 #[.slice B y.length d]);replace HX:=Hi_ (HX.out.tr hba);replace HK1:=Hi_ (HK1.out.keep hba);have HS2:=Hi_ (hsl1.keep hba);clear hba hsl1;generalize w4.alloc (.cells #[.slice B y.length d] 24)=W4 at *;generalize w4.heap.size=K2 at *;have k1:=HK1.out.cell (i:=0) (v:=.slice A l.length c) rfl;have k2:=HK2.out.cell (i:=0) (v:=.slice B y.length d) rfl;have HSM:=Hi_ (b5i l y _ _ W4 (HS0.out.keep HX.out) HS2.out);rw[g2] at HSM;clear g2 HS2 HS0;go_wp2_with fail
 refine HSM.out.mono ?_;rintro r w5 ⟨rfl,hb⟩;replace HX:=Hi_ (HX.out.tr hb);clear hb k1 k2 HSM HK2 HK1;go_wp2_with fail
 all_goals
  refine(HPS.out _).mono ?_;rintro r w6 ⟨v,rfl,hsl,hb⟩;dsimp only at hsl;have hsl1:=b7H b0m hsl;replace HX:=Hi_ (HX.out.tr hb);obtain⟨B',d',rfl,-⟩:=id hsl1;clear hsl hb HPS;go_upto_region 9 with fail;have hba:=(Bel.rfl_ w6).al (.cells #[.slice B' x.length d'] 24);have HK2:=Hi_ (Blk.new w6 24 #[.slice B' x.length d']);replace HX:=Hi_ (HX.out.tr hba);have HS2:=Hi_ (hsl1.keep hba);clear hba hsl1;generalize w6.alloc (.cells #[.slice B' x.length d'] 24)=W6 at *;generalize w6.heap.size=K2 at *;have k2:=HK2.out.cell (i:=0) (v:=.slice B' x.length d') rfl;by_cases he:e=0
  rotate_left
  ·obtain rfl:=HNO.out he;have d0:(e != 0)=true:=by simpa using he
   clear he HNO HOK HSH HPA HS2 HK2;go_wp2;go_ret;exact⟨rfl,HX.out⟩
  subst he;have hok:b4Q x=0:=HOK.out rfl;have HTX:=Hi_ (HTE.out x);have HSX:=Hi_ (HSH.out x (.slice B' x.length d'))
  have hsz:(b6V x).size≤maxLen:=by
   have e:b6V x=b1Z x:=if_pos hok;rw[e];exact Nat.le_trans (b8E hok).2.1 (by decide)
  rw[hok] at HTX HSX;obtain⟨T2,hT2⟩:∃T2,b6V x=T2:=⟨_,rfl⟩;rw[hT2] at HTX HSX hsz;clear hok hT2 HTE HNO HOK HSH;obtain⟨⟨z,a3,e3⟩,hz⟩:∃y,y=b1m T2:=⟨_,rfl⟩;have HPZ:=Hi_ (HPA.out T2 hsz);rw[←hz] at HPZ HTX;have HSZ:=Hi_ hsz;clear hz HPA hsz;go_upto_region 11 with fail;refine b0E ?_;try dsimp only[List.append]
  refine b0R (some 59) (.agg #[.slice B' x.length d']) (b4b rfl (by kernel_rfl) k2) ?_;refine b0W (some 60) 13 #[.agg #[.slice B' x.length d']] (HSX.out _ HS2.out HX.out) ?_;rintro r w7 ⟨rfl,hb⟩;replace HX:=Hi_ (HX.out.tr hb);replace HK2:=Hi_ (HK2.out.keep hb);replace HS2:=Hi_ (HS2.out.keep hb);clear hb HSX k2;refine⟨_,rfl,?_⟩;refine b0P (some 58) (.tuple #[.string T2,.int .i64 0]) ?_;refine b0V 2 61 [.string T2,.int .i64 0] ?_;refine b0V 2 5 [.string T2,.int .i64 0] ?_;refine b0C ?_;try simp only[sP,Act.put,lA,lB,lC]
  go_wp2_with fail
  refine(HPZ.out _).mono ?_;rintro r w8 ⟨v,rfl,hsl,hb⟩;dsimp only at hsl;have hsl1:=b7H b0m hsl;replace HX:=Hi_ (HX.out.tr hb);replace HK2:=Hi_ (HK2.out.keep hb);replace HS2:=Hi_ (HS2.out.keep hb);obtain⟨C',c',rfl,-⟩:=id hsl1;clear hsl hb HPZ;go_upto_region 15 with fail;have hba:=(Bel.rfl_ w8).al (.cells #[.slice C' z.length c'] 24);have HK3:=Hi_ (Blk.new w8 24 #[.slice C' z.length c']);replace HX:=Hi_ (HX.out.tr hba);replace HK2:=Hi_ (HK2.out.keep hba);replace HS2:=Hi_ (HS2.out.keep hba);have HS3:=Hi_ (hsl1.keep hba);clear hba hsl1;generalize w8.alloc (.cells #[.slice C' z.length c'] 24)=W8 at *;generalize w8.heap.size=K3 at *;have k2:=HK2.out.cell (i:=0) (v:=.slice B' x.length d') rfl;have k3:=HK3.out.cell (i:=0) (v:=.slice C' z.length c') rfl;refine b0E ?_;try dsimp only[List.append]
  refine b0V 2 71 [.string T2,.int .i64 T2.size] ?_;by_cases h6:T2.size≤6000
  rotate_left
  ·refine b0R (some 73) (.bool true) (b0f rfl (by kernel_rfl) (by kernel_rfl) (show decide ((T2.size:Int) > 6000)=true from decide_eq_true (by omega))) ?_;refine b0V 9 74 [.bool true,uD,uD,uD,uD,uD,uD,uD,.bool true] ?_;refine b0P (some 4) (.bool true) ?_;refine b0C ?_;try simp only[sP,Act.put,lA,lB,lC]
   go_wp2;go_ret;exact⟨rfl,HX.out⟩
  obtain⟨y',g1,g2⟩:=HTX.out h6 trivial;cases g1;have HSM:=Hi_ (b5i x z _ _ W8 HS2.out HS3.out);rw[g2] at HSM;clear g2 HTX HS2 HS3;refine b0R (some 73) (.bool false) (b0f rfl (by kernel_rfl) (by kernel_rfl) (show decide ((T2.size:Int) > 6000)=false from decide_eq_false (by omega))) ?_;refine b0V 4 74 [.bool false,.int .i64 0,.bool true,.bool true] ?_;refine b0R (some 78) (.agg #[.slice B' x.length d']) (b4b rfl (by kernel_rfl) k2) ?_;refine b0R (some 79) (.agg #[.slice C' z.length c']) (b4b rfl (by kernel_rfl) k3) ?_;refine b0W (some 80) 17 #[.agg #[.slice B' x.length d'],.agg #[.slice C' z.length c']] HSM.out ?_;rintro r w9 ⟨rfl,hb⟩;replace HX:=Hi_ (HX.out.tr hb);clear hb;refine⟨_,rfl,?_⟩;refine b0V 2 81 [.bool true,.bool true] ?_;refine b0P (some 4) (.bool true) ?_;refine b0C ?_;try simp only[sP,Act.put,lA,lB,lC]
  go_wp2;go_ret;exact⟨rfl,HX.out⟩
end Go.Proofs.YtmfjlcpjemccmaaGreatDoor
namespace Go.Proofs.YtmfjlcpjemccmaaGreatDoor
open Go.ChangeShapes Go.WideShapes Go.ChangeAt Go.RowKit
section
variable {H:Type}{enc:TypeId×Value→H}{P:Program}
theorem b5p(hl:laidOutB P=true){W W':World}(hb:Bel W W'):∀{ts:List TypeId} {vs:List Value} {ds:List (DataW H)} {ps:List MemPlace},(∀t∈ts,P.readableRec t=true∧t<P.types.size) →
  DataW.TrodAll enc P W 0 (fun _=>true) true ts vs ds ps→(∀x∈ps,x.block<W.heap.size)→DataW.TrodAll enc P W' 0 (fun b=>decide (b<W.heap.size)) true ts vs ds ps
 | [],vs,ds,ps,_,h,_=>by
  obtain⟨rfl,rfl,rfl⟩:=trodAll_nil h;exact trodAll_mk0
 | t::ts,vs,ds,ps,ht,h,hlt=>by
  obtain⟨v,vs',d,ds',p,p',rfl,rfl,rfl,h0,h1⟩:=trodAll_cons h;obtain⟨hr,hrow⟩:=ht t (by simp);exact trodAll_cons_mk (Below.trod hl hr hrow h0 hb (fun x hx=>hlt x (by simp[hx]))) (b5p hl hb (fun t h=>ht t (by simp[h])) h1 (fun x hx=>hlt x (by simp[hx])))
theorem c5G{fn:Func}{s:ChangeSpec}{tb:TypeId}(hv:s.vars=[])(hrt:fn.resultTypes=#[tb])(htb:P.underlying tb=some .bool)(hl:laidOutB P=true)(hp:∀t∈fn.params.toList,P.readableRec t=true∧t<P.types.size)
  {W W':World} {args:Array Value} {ds gs:List (DataW H)} {before:List MemPlace} (hW:DataW.Whole enc P fn.params.toList s.vars false W args.toList ds gs before)
  (hs:s.fn H (ds++gs)={ results:=[.lit (.bool true)],args:=ds }) (hb:Bel W W'):s.post enc P fn false true false false W args (.bool true) W':=by
 have hW':=hW;obtain⟨p,q,hA,hV,rfl,_,_⟩:=hW;rw[hv] at hV;obtain⟨rfl,rfl⟩:=trodVars_none hV;have hlt:∀x∈p,x.block<W.heap.size:=fun x hx=>hW'.lt x (by simp[hx]);refine⟨ds,[],p++[],[],p,[],hW',?_,?_,?_,hb.frame _,fun h=>by cases h⟩
 ·rw[hs,hrt];have e:(Value.bool true).resultList (#[tb].size)=[Value.bool true]:=rfl;rw[e];exact trodAll_mk1 (shut_bool htb _)
 ·rw[hs];exact b5p hl hb hp hA hlt
 ·rw[hs,hv];rfl
theorem c3B{w:World}{a:Addr}{n:Nat}{cs:List Value}(h:∀i,i<n→w.cell? (a.add i)=cs[i]?)(hl:cs.length=n)(hn:0<n):a.spot=none:=by
 have h0:=h 0 hn;have:cs[0]? = some (cs[0]'(by omega)):=List.getElem?_eq_getElem (by omega);rw[this] at h0
 simpa[Addr.add] using World.cell?_spot h0
end
end Go.Proofs.YtmfjlcpjemccmaaGreatDoor
namespace Go.Proofs.YtmfjlcpjemccmaaGreatDoor
open Go.ChangeShapes Go.WideShapes Go.ChangeAt Go.RowKit
theorem ownK:ownKnob Tryz.prog.godebug=none:=by kernel_rfl
theorem c5F:laidOutB Tryz.prog=true:=by kernel_rfl
section
variable {H:Type}{enc:TypeId×Value→H}{P:Program}{W:World}
theorem b3j{α:Type}{r:Rep α}{t e:TypeId}(ht:P.underlying t=some (.slice e))(hC:P.cellsOf e=r.size)(h0:0<r.size){fuel:Nat}
  (hel:∀m,m<fuel→∀(cs:List Value) (y:DataW H×List MemPlace),cs.length=r.size→DataW.trod enc P W 0 (fun _=>true) true m e cs=some y→∃x,r.R W cs x)
  {cs:List Value} {x:DataW H×List MemPlace} (h:DataW.trod enc P W 0 (fun _=>true) true fuel t cs=some x):∃v xs,cs=[v]∧Sl r W v xs:=by
 rcases DataW.trod_slice ht h with⟨hc,_⟩ | ⟨a,len,cap,elems,rest,m,hm,hc,_,_,hlc,hcm,hel2,hei,_,_⟩
 ·exact⟨.slice none 0 0,[],hc,Sl.nil_ _ _⟩
 ·have hx:∀i,i<len→∃x cs',r.R W cs' x∧∀j,j<r.size→W.cell? ((a.add (i*r.size)).add j)=cs'[j]?:=fun i hi=>by
   have h5:=hei i hi;rw[hC,List.getElem?_eq_getElem (by omega)] at h5;obtain⟨cs',hcs,htr⟩:=Option.bind_eq_some_iff.1 h5;obtain⟨_,hl,hcell⟩:=World.cells?_some hcs;obtain⟨x,hq⟩:=hel m (by omega) cs' _ hl htr;exact⟨x,cs',hq,hcell⟩
  refine⟨.slice (some a) len cap,(List.range len).pmap (fun i hi'=>Classical.choose (hx i hi')) (fun i hi'=>List.mem_range.1 hi'),hc,⟨some a,cap,by simp,by simpa using hlc,⟨hcm,fun h=>by cases h⟩,fun hp=>?_⟩⟩
  have hs:a.spot=none:=by
   obtain⟨x,cs',hq,hcell⟩:=hx 0 (by simpa using hp);refine c3B (w:=W) (n:=r.size) (cs:=cs') (fun i hi'=>?_) (r.len hq) h0;have:=hcell i hi'
   simpa[Addr.add] using this
  obtain⟨b,o,sp⟩:=a;simp only at hs;subst hs;refine⟨b,o,rfl,fun k x hk=>?_⟩;rw[List.getElem?_pmap] at hk
  have hk2:k<len:=by
   rcases Nat.lt_or_ge k len with h | h
   ·exact h
   ·simp[h] at hk
  simp only[List.getElem?_range hk2,Option.pmap_some,Option.some.injEq] at hk;obtain⟨cs',hq,hcell⟩:=Classical.choose_spec (hx k hk2);rw[hk] at hq;refine⟨cs',hq,fun j u hu=>?_⟩
  have hj:j<r.size:=by
   have:=(List.getElem?_eq_some_iff.1 hu).1;have h6:=r.len hq;omega
  have h1:=hcell j hj;rw[hu] at h1
  have e1:((⟨b,o,none⟩:Addr).add (k*r.size)).add j=⟨b,o+k*r.size+j,none⟩:=by
   unfold Addr.add;by_cases hk0:k*r.size=0<;>by_cases hj0:j=0<;>simp[hk0,hj0]
  rw[e1] at h1;exact h1
theorem b3e{fs:Array Field}{t:TypeId}{fuel:Nat}{cs:List Value}{y:DataW H×List MemPlace}(ht:P.underlying t=some (.struct fs))(h:DataW.trod enc P W 0 (fun _=>true) true fuel t cs=some y) :
  cs.length=P.cellsOf t∧∃n,n<fuel∧∀(i:Nat) (f:Field),fs[i]? = some f→∃y',DataW.trod enc P W 0 (fun _=>true) true n f.type ((cs.drop f.offset).take (P.cellsOf f.type))=some y':=by
 obtain⟨xs,n,rfl,_,hlen,hxl,hg⟩:=DataW.trod_struct ht h;refine⟨hlen,n,by omega,fun i f hf=>?_⟩;have h1:=hg i f hf
 have hi:i<xs.length:=by
  rw[hxl];exact(Array.getElem?_eq_some_iff.1 hf).1
 rw[List.getElem?_eq_getElem hi] at h1;exact⟨_,h1⟩
end
theorem cI:Tryz.prog.cellsOf 3=1:=by kernel_rfl
theorem cS:Tryz.prog.cellsOf 9=1:=by kernel_rfl
theorem cEs:Tryz.prog.cellsOf 47=1:=by kernel_rfl
theorem cCs:Tryz.prog.cellsOf 46=1:=by kernel_rfl
theorem cVs:Tryz.prog.cellsOf 45=1:=by kernel_rfl
theorem cSs:Tryz.prog.cellsOf 44=1:=by kernel_rfl
theorem cFs:Tryz.prog.cellsOf 22=1:=by kernel_rfl
theorem cE:Tryz.prog.cellsOf 49=5:=by kernel_rfl
theorem cC:Tryz.prog.cellsOf 53=17:=by kernel_rfl
theorem cV:Tryz.prog.cellsOf 55=2:=by kernel_rfl
theorem cF:Tryz.prog.cellsOf 51=10:=by kernel_rfl
theorem cT:Tryz.prog.cellsOf 24=1:=by kernel_rfl
section
variable {H:Type}{enc:TypeId×Value→H}{W:World}
set_option maxRecDepth 100000 in
theorem b8t:∀(fuel:Nat) (cs:List Value) (y:DataW H×List MemPlace),DataW.trod enc Tryz.prog W 0 (fun _=>true) true fuel 49 cs=some y→∃q,TER W q cs:=by
 intro fuel;induction fuel using Nat.strongRecOn with
 | _ fuel ih =>
  intro cs y h;obtain⟨hl,n,hn,hg⟩:=b3e Tryz.underlying49 h;rw[cE] at hl;have h0:∃y',DataW.trod enc Tryz.prog W 0 (fun _=>true) true n 3 ((cs.drop 0).take (Tryz.prog.cellsOf 3))=some y':=hg 0 _ rfl;rw[cI] at h0;obtain⟨y0,h0⟩:=h0;have h1:∃y',DataW.trod enc Tryz.prog W 0 (fun _=>true) true n 3 ((cs.drop 1).take (Tryz.prog.cellsOf 3))=some y':=hg 1 _ rfl;rw[cI] at h1;obtain⟨y1,h1⟩:=h1;have h2:∃y',DataW.trod enc Tryz.prog W 0 (fun _=>true) true n 3 ((cs.drop 2).take (Tryz.prog.cellsOf 3))=some y':=hg 2 _ rfl;rw[cI] at h2;obtain⟨y2,h2⟩:=h2;have h3:∃y',DataW.trod enc Tryz.prog W 0 (fun _=>true) true n 9 ((cs.drop 3).take (Tryz.prog.cellsOf 9))=some y':=hg 3 _ rfl;rw[cS] at h3;obtain⟨y3,h3⟩:=h3;have h4:∃y',DataW.trod enc Tryz.prog W 0 (fun _=>true) true n 47 ((cs.drop 4).take (Tryz.prog.cellsOf 47))=some y':=hg 4 _ rfl;rw[cEs] at h4;obtain⟨y4,h4⟩:=h4
  match cs,hl with
  | [c0,c1,c2,c3,c4],_ =>
   obtain⟨k0,e0,-,-⟩:=DataW.trod_int Tryz.underlying3 h0;obtain⟨k1,e1,-,-⟩:=DataW.trod_int Tryz.underlying3 h1;obtain⟨k2,e2,-,-⟩:=DataW.trod_int Tryz.underlying3 h2;obtain⟨s,e3,-,hs⟩:=DataW.trod_string Tryz.underlying9 h3;obtain⟨v,xs,e4,hsl⟩:=b3j (r:=teR) Tryz.underlying47 cE (by decide) (fun m hm cs y _ h=>ih m (by omega) cs y h) h4;have f0:c0=.int .i64 k0:=by simpa using e0
   have f1:c1=.int .i64 k1:=by simpa using e1
   have f2:c2=.int .i64 k2:=by simpa using e2
   have f3:c3=.string s:=by simpa using e3
   have f4:c4=v:=by simpa using e4
   subst f0 f1 f2 f3 f4;exact⟨.mk k0 k1 k2 s xs,TER.shut hs hsl⟩
set_option maxRecDepth 100000 in
theorem c6j(fuel:Nat)(cs:List Value)(y:DataW H×List MemPlace)(h:DataW.trod enc Tryz.prog W 0 (fun _=>true) true fuel 55 cs=some y):∃q,tvR.R W cs q:=by
 obtain⟨hl,n,hn,hg⟩:=b3e Tryz.underlying55 h;rw[cV] at hl;have h0:∃y',DataW.trod enc Tryz.prog W 0 (fun _=>true) true n 9 ((cs.drop 0).take (Tryz.prog.cellsOf 9))=some y':=hg 0 _ rfl;rw[cS] at h0;obtain⟨y0,h0⟩:=h0;have h1:∃y',DataW.trod enc Tryz.prog W 0 (fun _=>true) true n 3 ((cs.drop 1).take (Tryz.prog.cellsOf 3))=some y':=hg 1 _ rfl;rw[cI] at h1;obtain⟨y1,h1⟩:=h1
 match cs,hl with
 | [c0,c1],_ =>
  obtain⟨s,e0,-,hs⟩:=DataW.trod_string Tryz.underlying9 h0;obtain⟨k1,e1,-,-⟩:=DataW.trod_int Tryz.underlying3 h1;have f0:c0=.string s:=by simpa using e0
  have f1:c1=.int .i64 k1:=by simpa using e1
  subst f0 f1;exact⟨⟨s,k1⟩,rfl,hs⟩
set_option maxRecDepth 100000 in
theorem c6h:∀(fuel:Nat) (cs:List Value) (y:DataW H×List MemPlace),DataW.trod enc Tryz.prog W 0 (fun _=>true) true fuel 53 cs=some y→∃q,TCR W q cs:=by
 intro fuel;induction fuel using Nat.strongRecOn with
 | _ fuel ih =>
  intro cs y h;obtain⟨hl,n,hn,hg⟩:=b3e Tryz.underlying53 h;rw[cC] at hl;have h0:∃y',DataW.trod enc Tryz.prog W 0 (fun _=>true) true n 3 ((cs.drop 0).take (Tryz.prog.cellsOf 3))=some y':=hg 0 _ rfl;rw[cI] at h0;obtain⟨y0,h0⟩:=h0;have h1:∃y',DataW.trod enc Tryz.prog W 0 (fun _=>true) true n 3 ((cs.drop 1).take (Tryz.prog.cellsOf 3))=some y':=hg 1 _ rfl;rw[cI] at h1;obtain⟨y1,h1⟩:=h1;have h2:∃y',DataW.trod enc Tryz.prog W 0 (fun _=>true) true n 9 ((cs.drop 2).take (Tryz.prog.cellsOf 9))=some y':=hg 2 _ rfl;rw[cS] at h2;obtain⟨y2,h2⟩:=h2;have h3:∃y',DataW.trod enc Tryz.prog W 0 (fun _=>true) true n 9 ((cs.drop 3).take (Tryz.prog.cellsOf 9))=some y':=hg 3 _ rfl;rw[cS] at h3;obtain⟨y3,h3⟩:=h3;have h4:∃y',DataW.trod enc Tryz.prog W 0 (fun _=>true) true n 49 ((cs.drop 4).take (Tryz.prog.cellsOf 49))=some y':=hg 4 _ rfl;rw[cE] at h4;obtain⟨y4,h4⟩:=h4;have h5:∃y',DataW.trod enc Tryz.prog W 0 (fun _=>true) true n 49 ((cs.drop 9).take (Tryz.prog.cellsOf 49))=some y':=hg 5 _ rfl;rw[cE] at h5;obtain⟨y5,h5⟩:=h5;have h6:∃y',DataW.trod enc Tryz.prog W 0 (fun _=>true) true n 47 ((cs.drop 14).take (Tryz.prog.cellsOf 47))=some y':=hg 6 _ rfl;rw[cEs] at h6;obtain⟨y6,h6⟩:=h6;have h7:∃y',DataW.trod enc Tryz.prog W 0 (fun _=>true) true n 46 ((cs.drop 15).take (Tryz.prog.cellsOf 46))=some y':=hg 7 _ rfl;rw[cCs] at h7;obtain⟨y7,h7⟩:=h7;have h8:∃y',DataW.trod enc Tryz.prog W 0 (fun _=>true) true n 46 ((cs.drop 16).take (Tryz.prog.cellsOf 46))=some y':=hg 8 _ rfl;rw[cCs] at h8;obtain⟨y8,h8⟩:=h8
  match cs,hl with
  | [c0,c1,c2,c3,i0,i1,i2,i3,i4,x0,x1,x2,x3,x4,ca,ct,ce],_ =>
   obtain⟨k0,e0,-,-⟩:=DataW.trod_int Tryz.underlying3 h0;obtain⟨k1,e1,-,-⟩:=DataW.trod_int Tryz.underlying3 h1;obtain⟨s,e2,-,hs⟩:=DataW.trod_string Tryz.underlying9 h2;obtain⟨t,e3,-,ht⟩:=DataW.trod_string Tryz.underlying9 h3;obtain⟨i,hi⟩:=b8t n _ _ h4;obtain⟨e,he⟩:=b8t n _ _ h5;obtain⟨va,args,e6,hsa⟩:=b3j (r:=teR) Tryz.underlying47 cE (by decide) (fun m hm cs y _ h=>b8t m cs y h) h6;obtain⟨vt,thn,e7,hst⟩:=b3j (r:=tcR) Tryz.underlying46 cC (by decide) (fun m hm cs y _ h=>ih m (by omega) cs y h) h7;obtain⟨vs,els,e8,hsl⟩:=b3j (r:=tcR) Tryz.underlying46 cC (by decide) (fun m hm cs y _ h=>ih m (by omega) cs y h) h8;have f0:c0=.int .i64 k0:=by simpa using e0
   have f1:c1=.int .i64 k1:=by simpa using e1
   have f2:c2=.string s:=by simpa using e2
   have f3:c3=.string t:=by simpa using e3
   have f6:ca=va:=by simpa using e6
   have f7:ct=vt:=by simpa using e7
   have f8:ce=vs:=by simpa using e8
   subst f0 f1 f2 f3 f6 f7 f8;obtain⟨ft,g1,g2⟩:=hst.frame;obtain⟨fe,g3,g4⟩:=hsl.frame;exact⟨.mk k0 k1 s t i e args thn els,.mk k0 k1 s t i e args thn els [i0,i1,i2,i3,i4] [x0,x1,x2,x3,x4] ca ct ce ft fe hs ht hi he hsa g1 g2 g3 g4⟩
set_option maxRecDepth 100000 in
theorem c6i(fuel:Nat)(cs:List Value)(y:DataW H×List MemPlace)(h:DataW.trod enc Tryz.prog W 0 (fun _=>true) true fuel 51 cs=some y):∃q,TFR W q cs:=by
 obtain⟨hl,n,hn,hg⟩:=b3e Tryz.underlying51 h;rw[cF] at hl;have h0:∃y',DataW.trod enc Tryz.prog W 0 (fun _=>true) true n 3 ((cs.drop 0).take (Tryz.prog.cellsOf 3))=some y':=hg 0 _ rfl;rw[cI] at h0;obtain⟨y0,h0⟩:=h0;have h1:∃y',DataW.trod enc Tryz.prog W 0 (fun _=>true) true n 9 ((cs.drop 1).take (Tryz.prog.cellsOf 9))=some y':=hg 1 _ rfl;rw[cS] at h1;obtain⟨y1,h1⟩:=h1;have h2:∃y',DataW.trod enc Tryz.prog W 0 (fun _=>true) true n 44 ((cs.drop 2).take (Tryz.prog.cellsOf 44))=some y':=hg 2 _ rfl;rw[cSs] at h2;obtain⟨y2,h2⟩:=h2;have h3:∃y',DataW.trod enc Tryz.prog W 0 (fun _=>true) true n 45 ((cs.drop 3).take (Tryz.prog.cellsOf 45))=some y':=hg 3 _ rfl;rw[cVs] at h3;obtain⟨y3,h3⟩:=h3;have h4:∃y',DataW.trod enc Tryz.prog W 0 (fun _=>true) true n 46 ((cs.drop 4).take (Tryz.prog.cellsOf 46))=some y':=hg 4 _ rfl;rw[cCs] at h4;obtain⟨y4,h4⟩:=h4;have h5:∃y',DataW.trod enc Tryz.prog W 0 (fun _=>true) true n 49 ((cs.drop 5).take (Tryz.prog.cellsOf 49))=some y':=hg 5 _ rfl;rw[cE] at h5;obtain⟨y5,h5⟩:=h5
 match cs,hl with
 | [c0,c1,cp,cv,cc,r0,r1,r2,r3,r4],_ =>
  obtain⟨k0,e0,-,-⟩:=DataW.trod_int Tryz.underlying3 h0;obtain⟨s,e1,-,hs⟩:=DataW.trod_string Tryz.underlying9 h1
  obtain⟨vp,params,e2,hsp⟩:=b3j (r:=nmR) Tryz.underlying44 cS (by decide) (fun m hm cs y _ h=>by
   obtain⟨u,hu,-,hus⟩:=DataW.trod_string Tryz.underlying9 h;exact⟨u,hu,hus⟩) h2
  obtain⟨vv,vars,e3,hsv⟩:=b3j (r:=tvR) Tryz.underlying45 cV (by decide) (fun m hm cs y _ h=>c6j m cs y h) h3;obtain⟨vc,cmds,e4,hsc⟩:=b3j (r:=tcR) Tryz.underlying46 cC (by decide) (fun m hm cs y _ h=>c6h m cs y h) h4;obtain⟨e,he⟩:=b8t n _ _ h5;have f0:c0=.int .i64 k0:=by simpa using e0
  have f1:c1=.string s:=by simpa using e1
  have f2:cp=vp:=by simpa using e2
  have f3:cv=vv:=by simpa using e3
  have f4:cc=vc:=by simpa using e4
  subst f0 f1 f2 f3 f4;obtain⟨ek,ea,en,es,eargs⟩:=e;obtain⟨vr,hr,hrs,hsr⟩:=TER.opened he;have hr2:[r0,r1,r2,r3,r4]=[.int .i64 ek,.int .i64 ea,.int .i64 en,.string es,vr]:=hr;injection hr2 with g0 hr2;injection hr2 with g1 hr2;injection hr2 with g2 hr2;injection hr2 with g3 hr2;injection hr2 with g4 hr2;subst g0 g1 g2 g3 g4;exact⟨⟨k0,s,params,vars,cmds,.mk ek ea en es eargs⟩,cp,cv,cc,r4,rfl,hs,hrs,hsp,hsv,hsc,hsr⟩
set_option maxRecDepth 100000 in
theorem c3s{r:Reach}{base:Nat}{v:Value}{d:DataW H}{p:List MemPlace}(hv:Value.okWide Tryz.prog W r base 24 v)
  (h:DataW.Trod enc Tryz.prog W 0 (fun _=>true) true 24 v d p):∃l u,v=.agg #[u]∧Sl tfR W u l:=by
 obtain⟨cs,rfl,_⟩:=okWide_struct Tryz.underlying24 hv;obtain⟨fuel,hf⟩:=h;obtain⟨hl,n,hn,hg⟩:=b3e Tryz.underlying24 hf;rw[cT] at hl;have h0:∃y',DataW.trod enc Tryz.prog W 0 (fun _=>true) true n 22 (((Value.agg cs).cells.toList.drop 0).take (Tryz.prog.cellsOf 22))=some y':=hg 0 _ rfl;rw[cFs] at h0;obtain⟨y0,h0⟩:=h0;obtain⟨u,l,e0,hsl⟩:=b3j (r:=tfR) Tryz.underlying22 cF (by decide) (fun m hm cs y _ h=>c6i m cs y h) h0;refine⟨l,u,?_,hsl⟩
 have hc:(Value.agg cs).cells.toList=[u]:=by
  have h1:((Value.agg cs).cells.toList.drop 0).take 1=[u]:=e0;rw[List.drop_zero,List.take_of_length_le (by rw[hl];exact Nat.le_refl _)] at h1;exact h1
 have h2:(Value.agg cs).cells=#[u]:=by rw[←Array.toArray_toList (xs:=(Value.agg cs).cells),hc]
 have h3:cs=#[u]:=h2;rw[h3]
end
end Go.Proofs.YtmfjlcpjemccmaaGreatDoor
