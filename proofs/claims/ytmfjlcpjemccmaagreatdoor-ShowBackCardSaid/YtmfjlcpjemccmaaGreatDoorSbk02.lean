/- Tokens in plain words: what a token is does not hang on what stands around it. Each lemma states its own conditions. -/
import Derived.Test.YtmfjlcpjemccmaaGreatDoorSbk01
import Derived.Test.YtmfjlcpjemccmaaGreatDoorChecked
import Derived.Outline
import Derived.Deep.QuietTactic
import Derived.BigQuiet
import Derived.WalkLawsBesides
import Derived.WalkSpells
namespace Go.Proofs.YtmfjlcpjemccmaaGreatDoor
set_option maxHeartbeats 1000000
open Go.RowKit
def bt(s:ByteArray)(i:Nat):Nat:=if h:i<s.size then s[i].toNat else 256
theorem b2N{s:ByteArray}{i:Nat}(h:i<s.size):bt s i=s[i].toNat:=by rw[bt,dif_pos h]
theorem b7m{s:ByteArray}{i:Nat}(h:¬i<s.size):bt s i=256:=by rw[bt,dif_neg h]
theorem c2x{s:ByteArray}{i:Nat}(h:bt s i≠256):i<s.size:=by
 by_cases hi:i<s.size
 ·exact hi
 ·exact absurd (b7m hi) h
theorem b3m(s:ByteArray)(i:Nat):bt s i=((s.data.toList[i]?).map UInt8.toNat).getD 256:=by
 by_cases h:i<s.size
 ·rw[b2N h]
  have:s.data.toList[i]? = some s[i]:=by
   rw[Array.getElem?_toList];exact Array.getElem?_eq_getElem h
  rw[this];rfl
 ·rw[b7m h];have:s.data.toList[i]? = none:=List.getElem?_eq_none (by simpa using h);rw[this];rfl
theorem b3N(s:ByteArray)(a b k:Nat)(_hb:b≤s.size):bt (s.extract a b) k=if k<b-a then bt s (a+k) else 256:=by
 rw[b3m,b3m,ByteArray.data_extract,Array.toList_extract];simp only[List.extract_eq_take_drop,List.getElem?_take,List.getElem?_drop];split<;>rfl
theorem b3r(a b:ByteArray)(k:Nat):bt (a++b) k=if k<a.size then bt a k else bt b (k-a.size):=by
 rw[b3m,b3m,b3m,ByteArray.data_append,Array.toList_append];split
 ·rename_i h
  rw[List.getElem?_append_left (by simpa using h)]
 ·rename_i h
  rw[List.getElem?_append_right (by simpa using h)];rfl
theorem b7l{a b:ByteArray}(h:a.size=b.size)(hb:∀k,k<a.size→bt a k=bt b k):a=b:=by
 have:a.data.toList=b.data.toList:=by
  apply List.ext_getElem
  ·simpa using h
  ·intro i h1 h2;have h1':i<a.size:=by simpa using h1
   have h2':i<b.size:=by simpa using h2
   have:=hb i h1';rw[b2N h1',b2N h2'] at this;have h3:=UInt8.toNat_inj.1 this;exact h3
 cases a;cases b;simp only[ByteArray.mk.injEq];exact Array.toList_inj.1 this
theorem b6l(p:Nat→Bool)(hp:p 256=false)(s:ByteArray)(i:Nat):b1F p s i=if p (bt s i)=true then b1F p s (i+1) else i:=by
 by_cases h:i<s.size
 ·rw[b2N h,b1F,dif_pos h]
 ·rw[b7m h,if_neg (by simp[hp]),b3z h]
theorem b6m{p:Nat→Bool}(hp:p 256=false){s:ByteArray}{j:Nat}(hj:p (bt s j)=false):∀(n i:Nat),j-i=n→i≤j→(∀k,i≤k→k<j→p (bt s k)=true)→b1F p s i=j
 | n,i,hn,hij,h=>by
  by_cases he:i=j
  ·subst he;rw[b6l p hp,if_neg (by simp[hj])]
  ·rw[b6l p hp,if_pos (h i (Nat.le_refl _) (by omega))];exact b6m hp hj (n-1) (i+1) (by omega) (by omega) (fun k h1 h2=>h k (by omega) h2)
termination_by n=>n
theorem b6o{p:Nat→Bool}(hp:p 256=false){s:ByteArray}:∀(n i:Nat),s.size-i=n→p (bt s (b1F p s i))=false∧∀k,i≤k→k<b1F p s i→p (bt s k)=true
 | n,i,hn=>by
  cases hb:p (bt s i) with
  | false =>
   rw[b6l p hp,if_neg (by simp[hb])];exact⟨hb,fun k h1 h2=>by omega⟩
  | true =>
   have hi:i<s.size:=c2x (fun h=>by rw[h,hp] at hb;cases hb);rw[b6l p hp,if_pos hb];obtain⟨h1,h2⟩:=b6o (s:=s) hp (n-1) (i+1) (by omega);refine⟨h1,fun k h3 h4=>?_⟩;by_cases he:k=i
   ·rw[he];exact hb
   ·exact h2 k (by omega) h4
termination_by n=>n
theorem c1A:b3v 256=false:=by decide
theorem b8k:isD 256=false:=by decide
theorem b1j(s:ByteArray)(i:Nat):b0X s i =
  if isL (bt s i)=true then(1,b1F b3v s (i+1)-i)
  else if isD (bt s i)=true then(2,b1F isD s (i+1)-i)
  else if bt s i=61∧bt s (i+1)=61 then(3,2)
  else if isS (bt s i)=true then(3,1)
  else(0,0):=by
 by_cases h:i<s.size
 ·rw[b0X,dif_pos h,b2N h]
  have h61:(s[i].toNat=61∧∃h:i+1<s.size,s[i+1].toNat=61)↔(s[i].toNat=61∧bt s (i+1)=61):=by
   constructor
   ·rintro⟨h1,h2,h3⟩;exact⟨h1,by rw[b2N h2];exact h3⟩
   ·rintro⟨h1,h2⟩;have h3:i+1<s.size:=c2x (by omega);rw[b2N h3] at h2;exact⟨h1,h3,h2⟩
  simp only[h61]
 ·rw[b0X,dif_neg h,b7m h,if_neg (by decide),if_neg (by decide),if_neg (by omega),if_neg (by decide)]
theorem c2d{s S:ByteArray}{i j n:Nat}(hk:(b0X s i).1≠0)(hn:n=(b0X s i).2)(h:∀k,k<n→bt S (j+k)=bt s (i+k))
  (he:b3v (bt S (j+n))=false) (h61:¬(bt s i=61∧n=1∧bt S (j+n)=61)):b0X S j=b0X s i:=by
 have hpos:=(b2B hk).1;have h0:bt S j=bt s i:=by have:=h 0 (by omega);simpa using this
 rw[b1j] at hk hn ⊢;rw[b1j s i,h0];by_cases h1:isL (bt s i)=true
 ·rw[if_pos h1] at hn ⊢;rw[if_pos h1];simp only at hn;obtain⟨h3,h4⟩:=b6o (s:=s) c1A _ (i+1) rfl;have h5:=b4r b3v s (i+1)
  have h6:b1F b3v S (j+1)=j+n:=b6m c1A he _ (j+1) rfl (by omega) (fun k h6 h7=>by
   have e:k=j+(k-j):=by omega
   rw[e,h (k-j) (by omega)];exact h4 _ (by omega) (by omega))
  rw[h6]
  congr 1
  omega
 ·rw[if_neg h1] at hn hk ⊢;rw[if_neg h1];by_cases h1:isD (bt s i)=true
  ·rw[if_pos h1] at hn ⊢;rw[if_pos h1];simp only at hn;obtain⟨h3,h4⟩:=b6o (s:=s) b8k _ (i+1) rfl;have h5:=b4r isD s (i+1);have he':isD (bt S (j+n))=false:=by unfold b3v at he;simp at he;exact he.2
   have h6:b1F isD S (j+1)=j+n:=b6m b8k he' _ (j+1) rfl (by omega) (fun k h6 h7=>by
    have e:k=j+(k-j):=by omega
    rw[e,h (k-j) (by omega)];exact h4 _ (by omega) (by omega))
   rw[h6]
   congr 1
   omega
  ·rw[if_neg h1] at hn hk ⊢;rw[if_neg h1];by_cases h2:bt s i=61∧bt s (i+1)=61
   ·rw[if_pos h2] at hn ⊢;simp only at hn;rw[if_pos];rw[h 1 (by omega)];exact h2
   ·rw[if_neg h2] at hn hk ⊢;by_cases h3:isS (bt s i)=true
    ·rw[if_pos h3] at hn ⊢;simp only at hn;rw[if_neg];intro h4;apply h61;rw[hn];exact⟨h4.1,rfl,h4.2⟩
    ·rw[if_neg h3] at hk;simp at hk
theorem b2C(s:ByteArray)(i:Nat):b1I s i =
  if(b0X s i).1=0 then 1
  else if((b0X s i).1=1∧12<(b0X s i).2)∨((b0X s i).1=2∧7<(b0X s i).2) then 2
  else if(b0X s i).1=2∧1<(b0X s i).2∧bt s i=48 then 1
  else 0:=by
 unfold b1I
 have h48:(∃h:i<s.size,s[i].toNat=48)↔bt s i=48:=by
  constructor
  ·rintro⟨h1,h2⟩;rw[b2N h1];exact h2
  ·intro h;have h1:i<s.size:=c2x (by omega);rw[b2N h1] at h;exact⟨h1,h⟩
 simp only[h48]
theorem c0d{s S:ByteArray}{i j:Nat}(h:b0X S j=b0X s i)(h0:bt S j=bt s i):b1I S j=b1I s i:=by
 rw[b2C,b2C,h,h0]
def b1T(kind:Int)(s:ByteArray):Bool:=decide (s.size≤6000∧kind=(b0X s 0).1∧(b0X s 0).2=s.size∧b1I s 0=0)
theorem c3a{kind:Int}{s:ByteArray}:b1T kind s=true↔s.size≤6000∧kind=(b0X s 0).1∧(b0X s 0).2=s.size∧b1I s 0=0:=by
 unfold b1T;exact decide_eq_true_iff
def c7W(s:ByteArray):Nat→List Tok→Prop
 | _,[]=>True
 | i,t::ts=>∃j,i≤j∧b1I s j=0∧t=b1f s j∧c7W s (j+(b0X s j).2) ts
theorem b4x(s:ByteArray):∀(n i:Nat) (note:Bool) (acc l:List Tok) (a:Int),s.size-i=n→b1z s i note acc=(l,a,0)→∃l',l=acc++l'∧c7W s i l'∧a=0
 | n,i,note,acc,l,a,hn,h=>by
  by_cases hi:i<s.size
  ·cases h1:(note || s[i].toNat==35) with
   | true =>
    rw[b6D hi h1] at h;obtain⟨l',h2,h3,h4⟩:=b4x s (n-1) (i+1) _ acc l a (by omega) h;refine⟨l',h2,?_,h4⟩;cases l' with
    | nil=>trivial
    | cons t ts=>obtain⟨j,g1,g2⟩:=h3;exact⟨j,by omega,g2⟩
   | false =>
    cases h2:b5q s[i].toNat with
    | true =>
     rw[b6p hi h1 h2] at h;obtain⟨l',h2,h3,h4⟩:=b4x s (n-1) (i+1) _ acc l a (by omega) h;refine⟨l',h2,?_,h4⟩;cases l' with
     | nil=>trivial
     | cons t ts=>obtain⟨j,g1,g2⟩:=h3;exact⟨j,by omega,g2⟩
    | false =>
     by_cases h0:b1I s i=0
     ·rw[b4c hi h1 h2 h0] at h;have hp:=b2B (b1a h0);obtain⟨l',h2,h3,h4⟩:=b4x s (n-(b0X s i).2) (i+(b0X s i).2) false _ l a (by omega) h;exact⟨b1f s i::l',by rw[h2,List.append_assoc];rfl,⟨i,Nat.le_refl _,h0,rfl,h3⟩,h4⟩
     ·rw[b7Y hi h1 h2 h0] at h;injection h with _ h;injection h with _ h;exact absurd h h0
  ·rw[b3g hi] at h;injection h with h1 h2;injection h2 with h2 h3;exact⟨[],by rw[h1,List.append_nil],trivial,h2.symm⟩
termination_by n=>n
theorem b5M{s:ByteArray}{l:List Tok}{a:Int}(h:b0N s=(l,a,0)):s.size≤6000∧c7W s 0 l∧a=0:=by
 unfold b0N at h;by_cases hs:6000<s.size
 ·rw[if_pos hs] at h;injection h with _ h;injection h with _ h;omega
 ·rw[if_neg hs] at h;obtain⟨l',h1,h2,h3⟩:=b4x s _ 0 false [] l a rfl h;rw[List.nil_append] at h1;subst h1;exact⟨by omega,h2,h3⟩
theorem b8M{s:ByteArray}{i:Nat}(hk:(b0X s i).1≠0):∃h:i<s.size,(false || s[i].toNat==35)=false∧b5q s[i].toNat=false:=by
 have hp:=b2B hk;have hi:i<s.size:=by omega
 refine⟨hi,?_⟩;rw[b1j,b2N hi] at hk
 have h35:s[i].toNat≠35:=by
  intro h;rw[h] at hk;rw[if_neg (by decide),if_neg (by decide),if_neg (by omega),if_neg (by decide)] at hk;exact hk rfl
 have h32:s[i].toNat≠32:=by
  intro h;rw[h] at hk;rw[if_neg (by decide),if_neg (by decide),if_neg (by omega),if_neg (by decide)] at hk;exact hk rfl
 have h9:s[i].toNat≠9:=by
  intro h;rw[h] at hk;rw[if_neg (by decide),if_neg (by decide),if_neg (by omega),if_neg (by decide)] at hk;exact hk rfl
 have h10:s[i].toNat≠10:=by
  intro h;rw[h] at hk;rw[if_neg (by decide),if_neg (by decide),if_neg (by omega),if_neg (by decide)] at hk;exact hk rfl
 constructor
 ·simpa using h35
 ·unfold b5q;simp[h32,h9,h10]
theorem b9w(s:ByteArray):s.extract 0 s.size=s:=by
 apply b7l
 ·simp
 ·intro k hk;rw[b3N _ _ _ _ (Nat.le_refl _)];simp at hk;rw[if_pos (by omega),Nat.zero_add]
theorem b1r{s:ByteArray}{a b:Nat}(h:b≤s.size):(s.extract a b).size=b-a:=by
 rw[ByteArray.size_extract];omega
theorem c3p(kind:Int)(s:ByteArray):b1T kind s=true↔(b0N s).2.2=0∧∃t,(b0N s).1=[t]∧t.kind=kind∧t.text=s:=by
 rw[c3a]
 constructor
 ·rintro⟨h1,h2,h3,h4⟩;have hk:=b1a h4;obtain⟨hi,g1,g2⟩:=b8M hk
  have e:b0N s=([b1f s 0],0,0):=by
   unfold b0N;rw[if_neg (by omega),b4c hi g1 g2 h4,h3,b3g (by omega)];rfl
  rw[e];refine⟨rfl,_,rfl,?_,?_⟩
  ·exact h2.symm
  ·show s.extract 0 (0+(b0X s 0).2)=s;rw[h3,Nat.zero_add,b9w]
 ·rintro⟨h1,t,h2,h3,h4⟩;have e:b0N s=([t],(b0N s).2.1,0):=by rw[←h1,←h2]
  obtain⟨g1,g2,_⟩:=b5M e;obtain⟨j,_,hj,ht,_⟩:=g2;have hk:=b1a hj;have hp:=b2B hk;have h5:s.extract j (j+(b0X s j).2)=s:=by rw[ht] at h4;exact h4
  have h6:=congrArg ByteArray.size h5;rw[b1r (by omega)] at h6;obtain rfl:j=0:=by omega
  refine⟨g1,?_,by omega,hj⟩;rw[←h3,ht];rfl
theorem b3U(n a b:Int)(w:World):Calls Tryz.prog 40 #[.int .i64 n,.int .i64 a,.int .i64 b] w fun r w'=>r=.returned (.bool (decide (a≤n∧n≤b)))∧w=w':=by
 go_enter Tryz.func40,Tryz.ntmps40;go_wp2
 all_goals go_ret
 all_goals refine⟨b0Z ?_,rfl⟩
 all_goals simp_all
 all_goals omega
theorem b2r(b:Nat)(w:World):Calls Tryz.prog 109 #[.int .u8 b] w fun r w'=>r=.returned (.bool (isL b))∧w=w':=by
 go_enter Tryz.func109,Tryz.ntmps109;go_wp2
 all_goals go_ret
 all_goals refine⟨b0Z ?_,rfl⟩
 all_goals unfold isL
 all_goals rw[Bool.eq_iff_iff]
 all_goals simp
 all_goals omega
theorem b3t(b:Nat)(w:World):Calls Tryz.prog 112 #[.int .u8 b] w fun r w'=>r=.returned (.bool (isD b))∧w=w':=by
 go_enter Tryz.func112,Tryz.ntmps112;go_wp2
 all_goals go_ret
 all_goals refine⟨b0Z ?_,rfl⟩
 all_goals unfold isD
 all_goals rw[Bool.eq_iff_iff]
 all_goals simp
 all_goals omega
theorem b1h(b:Nat)(hb:b<256)(w:World):Calls Tryz.prog 145 #[.int .u8 b] w fun r w'=>r=.returned (.bool (isL b))∧w=w':=by
 go_enter Tryz.func145,Tryz.ntmps145;go_wp2_with (go_at_call 40;refine(b3U _ _ _ _).mono ?_;rintro e w' ⟨rfl,rfl⟩)
 go_ret;exact⟨b0Z (by rw[Bool.eq_iff_iff];simp[isL];omega),rfl⟩
theorem b1C(b:Nat)(hb:b<256)(w:World):Calls Tryz.prog 95 #[.int .u8 b] w fun r w'=>r=.returned (.bool (isD b))∧w=w':=by
 go_enter Tryz.func95,Tryz.ntmps95;go_wp2_with (go_at_call 40;refine(b3U _ _ _ _).mono ?_;rintro e w' ⟨rfl,rfl⟩)
 go_ret;exact⟨b0Z (by rw[Bool.eq_iff_iff];simp[isD];omega),rfl⟩
theorem c7e(b:Nat)(w:World):Calls Tryz.prog 111 #[.int .u8 b] w fun r w'=>r=.returned (.bool (b3v b))∧w=w':=by
 unfold b3v;cases h:isL b with
 | true =>
  go_enter Tryz.func111,Tryz.ntmps111;go_wp2_with (go_at_call 109;refine(b2r _ _).mono ?_;rintro e w' ⟨rfl,rfl⟩;simp only[h])
  go_ret;exact⟨rfl,rfl⟩
 | false =>
  go_enter Tryz.func111,Tryz.ntmps111;go_wp2_with (first | (go_at_call 109;refine(b2r _ _).mono ?_;rintro e w' ⟨rfl,rfl⟩;simp only[h]) | (go_at_call 112;refine(b3t _ _).mono ?_;rintro e w' ⟨rfl,rfl⟩))
  go_ret;exact⟨rfl,rfl⟩
theorem b4A{p:Nat→Bool}{s:ByteArray}{i j:Nat}{b:Nat}(h:b1F p s i=b1F p s j)(hj:j<s.size)(hb:s[j].toNat=b)(hp:p b=true):b1F p s i=b1F p s (j+1):=by
 rw[h,b6n hj (by rw[hb];exact hp)]
theorem b4q{p:Nat→Bool}{s:ByteArray}{i j:Nat}{b:Nat}(h:b1F p s i=b1F p s j)(hj:j<s.size)(hb:s[j].toNat=b)(hp:p b=false):b1F p s i=j:=by
 rw[h,b7x hj (by rw[hb];exact hp)]
def signs:ByteArray:=⟨#[123,125,40,41,91,93,59,44,61,43,45,42,47,37,60]⟩
theorem c2W:signs.size=15:=rfl
theorem b6F{k:Nat}(h:k<signs.size):isS signs[k].toNat=true:=by
 have h':k<15:=h
 match k,h' with
 | 0,_ | 1,_ | 2,_ | 3,_ | 4,_ | 5,_ | 6,_ | 7,_ | 8,_ | 9,_ | 10,_ | 11,_ | 12,_ | 13,_ | 14,_=>rfl
theorem b6E{c:Nat}(h:∀k (hk:k<signs.size),signs[k].toNat≠c):isS c=false:=by
 cases hc:isS c with
 | false=>rfl
 | true =>
  have hm:c∈c2V:=by simpa[isS] using hc
  simp only[c2V,List.mem_cons,List.not_mem_nil,or_false] at hm;rcases hm with rfl | rfl | rfl | rfl | rfl | rfl | rfl | rfl | rfl | rfl | rfl | rfl | rfl | rfl | rfl
  ·exact absurd rfl (h 0 (by decide))
  ·exact absurd rfl (h 1 (by decide))
  ·exact absurd rfl (h 2 (by decide))
  ·exact absurd rfl (h 3 (by decide))
  ·exact absurd rfl (h 4 (by decide))
  ·exact absurd rfl (h 5 (by decide))
  ·exact absurd rfl (h 6 (by decide))
  ·exact absurd rfl (h 7 (by decide))
  ·exact absurd rfl (h 8 (by decide))
  ·exact absurd rfl (h 9 (by decide))
  ·exact absurd rfl (h 10 (by decide))
  ·exact absurd rfl (h 11 (by decide))
  ·exact absurd rfl (h 12 (by decide))
  ·exact absurd rfl (h 13 (by decide))
  ·exact absurd rfl (h 14 (by decide))
def b3q(s:ByteArray)(i:Nat)(r:Ending):Prop:=r=.returned (.tuple #[.int .i64 (b0X s i).1,.int .i64 (b0X s i).2])
theorem c0f(s:ByteArray)(i:Nat)(w:World)(hs:c1x s.size)(hi:i<s.size) :
  Calls Tryz.prog 92 #[.string s,.int .i64 i] w fun r w'=>b3q s i r∧w=w':=by
 unfold c1x at hs;have hb2:s[i].toNat<256:=s[i].toNat_lt
 have HT:Hid (b0X s i=if isL s[i].toNat then(1,b1F b3v s (i+1)-i)
  else if isD s[i].toNat then(2,b1F isD s (i+1)-i)
  else if s[i].toNat=61∧∃h:i+1<s.size,s[i+1].toNat=61 then(3,2)
  else if isS s[i].toNat then(3,1)
  else(0,0)):=Hi_ (by unfold b0X;rw[dif_pos hi])
 cases hL:isL s[i].toNat with
 | true =>
  have HT':Hid (b0X s i=(1,b1F b3v s (i+1)-i)):=Hi_ (by rw[HT.out,if_pos hL]);clear HT;go_enter Tryz.func92,Tryz.ntmps92;go_wp2_with (go_at_call 145;refine(b1h _ hb2 _).mono ?_;rintro e w' ⟨rfl,rfl⟩;simp only[hL])
  clear hL;go_loop [7] (fun n=>∃k:Nat,1≤k∧i+k≤s.size∧n=.int .i64 k∧Hid (b1F b3v s (i+1)=b1F b3v s (i+k))) (fun n=>s.size-(intOf n).toNat)
  case atStart=>exact⟨1,by omega,by omega,rfl,rfl⟩
  case round =>
   obtain⟨k,hk1,hk,rfl,HR⟩:=hrel;by_cases hlt:i+k<s.size
   ·obtain⟨b,hb⟩:∃b,s[i+k].toNat=b:=⟨_,rfl⟩;have hb3:b<256:=by rw[←hb];exact s[i+k].toNat_lt
    cases h1:isL b with
    | true =>
     have HR2:=Hi_ (b4A (p:=b3v) HR.out hlt hb (by unfold b3v;rw[h1];rfl));go_wp2_with (go_at_call 145;refine(b1h _ hb3 _).mono ?_;rintro e w' ⟨rfl,rfl⟩;simp only[h1])
     go_round
     case rel=>exact⟨k+1,by omega,by omega,by go_num,HR2⟩
     case measure=>simp[intOf];omega
    | false =>
     cases h2:isD b with
     | true =>
      have HR2:=Hi_ (b4A (p:=b3v) HR.out hlt hb (by unfold b3v;rw[h1,h2];rfl));go_wp2_with (first | (go_at_call 145;refine(b1h _ hb3 _).mono ?_;rintro e w' ⟨rfl,rfl⟩;simp only[h1]) | (go_at_call 95;refine(b1C _ hb3 _).mono ?_;rintro e w' ⟨rfl,rfl⟩;simp only[h2]))
      go_round
      case rel=>exact⟨k+1,by omega,by omega,by go_num,HR2⟩
      case measure=>simp[intOf];omega
     | false =>
      have HR2:=Hi_ (b4q (p:=b3v) HR.out hlt hb (by unfold b3v;rw[h1,h2];rfl));go_wp2_with (first | (go_at_call 145;refine(b1h _ hb3 _).mono ?_;rintro e w' ⟨rfl,rfl⟩;simp only[h1]) | (go_at_call 95;refine(b1C _ hb3 _).mono ?_;rintro e w' ⟨rfl,rfl⟩;simp only[h2]))
      go_ret2
      refine⟨?_,rfl⟩;unfold b3q;rw[HT'.out,HR2.out];simp only[Nat.add_sub_cancel_left];rfl
   ·have HR2:Hid (b1F b3v s (i+1)=i+k):=Hi_ (by rw[HR.out,b3z hlt]);go_wp2;go_ret2
    refine⟨?_,rfl⟩;unfold b3q;rw[HT'.out,HR2.out];simp only[Nat.add_sub_cancel_left];rfl
 | false =>
  cases hD:isD s[i].toNat with
  | true =>
   have HT':Hid (b0X s i=(2,b1F isD s (i+1)-i)):=Hi_ (by rw[HT.out,if_neg (by simp[hL]),if_pos hD]);clear HT;go_enter Tryz.func92,Tryz.ntmps92;go_wp2_with (first | (go_at_call 145;refine(b1h _ hb2 _).mono ?_;rintro e w' ⟨rfl,rfl⟩;simp only[hL]) | (go_at_call 95;refine(b1C _ hb2 _).mono ?_;rintro e w' ⟨rfl,rfl⟩;simp only[hD]))
   clear hL hD;go_loop [7] (fun n=>∃k:Nat,1≤k∧i+k≤s.size∧n=.int .i64 k∧Hid (b1F isD s (i+1)=b1F isD s (i+k))) (fun n=>s.size-(intOf n).toNat)
   case atStart=>exact⟨1,by omega,by omega,rfl,rfl⟩
   case round =>
    obtain⟨k,hk1,hk,rfl,HR⟩:=hrel;by_cases hlt:i+k<s.size
    ·obtain⟨b,hb⟩:∃b,s[i+k].toNat=b:=⟨_,rfl⟩;have hb3:b<256:=by rw[←hb];exact s[i+k].toNat_lt
     cases h2:isD b with
     | true =>
      have HR2:=Hi_ (b4A (p:=isD) HR.out hlt hb h2);go_wp2_with (go_at_call 95;refine(b1C _ hb3 _).mono ?_;rintro e w' ⟨rfl,rfl⟩;simp only[h2])
      go_round
      case rel=>exact⟨k+1,by omega,by omega,by go_num,HR2⟩
      case measure=>simp[intOf];omega
     | false =>
      have HR2:=Hi_ (b4q (p:=isD) HR.out hlt hb h2);go_wp2_with (go_at_call 95;refine(b1C _ hb3 _).mono ?_;rintro e w' ⟨rfl,rfl⟩;simp only[h2])
      go_ret2
      refine⟨?_,rfl⟩;unfold b3q;rw[HT'.out,HR2.out];simp only[Nat.add_sub_cancel_left];rfl
    ·have HR2:Hid (b1F isD s (i+1)=i+k):=Hi_ (by rw[HR.out,b3z hlt]);go_wp2;go_ret2
     refine⟨?_,rfl⟩;unfold b3q;rw[HT'.out,HR2.out];simp only[Nat.add_sub_cancel_left];rfl
  | false =>
   have HT':Hid (b0X s i=if s[i].toNat=61∧∃h:i+1<s.size,s[i+1].toNat=61 then(3,2)
    else if isS s[i].toNat then(3,1) else(0,0)):=Hi_ (by rw[HT.out,if_neg (by simp[hL]),if_neg (by simp[hD])])
   clear HT;by_cases h2:s[i].toNat=61∧∃h:i+1<s.size,s[i+1].toNat=61
   ·have HT2:Hid (b0X s i=(3,2)):=Hi_ (by rw[HT'.out,if_pos h2]);obtain⟨h3,h4,h5⟩:=h2;have d1:((s[i].toNat:Int)==61)=true:=by simp;omega
    have d2:((s[i+1].toNat:Int)==61)=true:=by simp;omega
    clear h3 h5;go_enter Tryz.func92,Tryz.ntmps92;go_wp2_with (first | (go_at_call 145;refine(b1h _ hb2 _).mono ?_;rintro e w' ⟨rfl,rfl⟩;simp only[hL]) | (go_at_call 95;refine(b1C _ hb2 _).mono ?_;rintro e w' ⟨rfl,rfl⟩;simp only[hD]))
    go_ret2
    exact⟨by unfold b3q;rw[HT2.out];rfl,rfl⟩
   ·have HT2:Hid (b0X s i=if isS s[i].toNat then(3,1) else(0,0)):=Hi_ (by rw[HT'.out,if_neg h2]);clear HT';have HG:Hid (s[i].toNat=61→∀h:i+1<s.size,s[i+1].toNat≠61):=Hi_ (fun h3 h4 h5=>h2 ⟨h3,h4,h5⟩);clear h2;have hsz:=c2W;by_cases h61:s[i].toNat=61
    ·have d1:((s[i].toNat:Int)==61)=true:=by simp;omega
     by_cases h1:i+1<s.size
     ·have d2:((s[i+1].toNat:Int)==61)=false:=by have:=HG.out h61 h1;simp;omega
      have H61:=Hi_ h61;clear h61;have hlit:(⟨#[123,125,40,41,91,93,59,44,61,43,45,42,47,37,60]⟩:ByteArray)=signs:=rfl;go_enter Tryz.func92,Tryz.ntmps92;go_wp2_with (first | (go_at_call 145;refine(b1h _ hb2 _).mono ?_;rintro e w' ⟨rfl,rfl⟩;simp only[hL]) | (go_at_call 95;refine(b1C _ hb2 _).mono ?_;rintro e w' ⟨rfl,rfl⟩;simp only[hD]))
      clear hL hD;go_loop [9] (fun n=>∃k:Nat,k≤15∧n=.int .i64 k∧Hid (∀j (hj:j<signs.size),j<k→signs[j].toNat≠s[i].toNat)) (fun n=>15-(intOf n).toNat)
      case atStart=>exact⟨0,by omega,rfl,fun j _ h=>absurd h (by omega)⟩
      case round =>
       obtain⟨k,hk,rfl,HK⟩:=hrel;by_cases hlt:k<signs.size
       ·by_cases heq:signs[k].toNat=s[i].toNat
        ·have d3:((signs[k].toNat:Int)==(s[i].toNat:Int))=true:=by simp;omega
         have HS:=Hi_ (b6F hlt);have HE:=Hi_ heq;clear heq;go_wp2;go_ret2
         exact⟨by unfold b3q;rw[HT2.out,←HE.out,if_pos HS.out];rfl,rfl⟩
        ·have d3:((signs[k].toNat:Int)==(s[i].toNat:Int))=false:=by simp;omega
         have HE:=Hi_ heq;clear heq;go_wp2;go_round
         case rel =>
          refine⟨k+1,by omega,by go_num,fun j hj h=>?_⟩;by_cases hjk:j=k
          ·subst hjk;exact HE.out
          ·exact HK.out j hj (by omega)
         case measure=>simp[intOf];omega
       ·have HS:=Hi_ (b6E (c:=s[i].toNat) (fun j hj=>HK.out j hj (by omega)));go_wp2;go_ret2
        exact⟨by unfold b3q;rw[HT2.out,if_neg (by simp[HS.out])];rfl,rfl⟩
     ·have H61:=Hi_ h61;clear h61;have hlit:(⟨#[123,125,40,41,91,93,59,44,61,43,45,42,47,37,60]⟩:ByteArray)=signs:=rfl;go_enter Tryz.func92,Tryz.ntmps92;go_wp2_with (first | (go_at_call 145;refine(b1h _ hb2 _).mono ?_;rintro e w' ⟨rfl,rfl⟩;simp only[hL]) | (go_at_call 95;refine(b1C _ hb2 _).mono ?_;rintro e w' ⟨rfl,rfl⟩;simp only[hD]))
      clear hL hD;go_loop [9] (fun n=>∃k:Nat,k≤15∧n=.int .i64 k∧Hid (∀j (hj:j<signs.size),j<k→signs[j].toNat≠s[i].toNat)) (fun n=>15-(intOf n).toNat)
      case atStart=>exact⟨0,by omega,rfl,fun j _ h=>absurd h (by omega)⟩
      case round =>
       obtain⟨k,hk,rfl,HK⟩:=hrel;by_cases hlt:k<signs.size
       ·by_cases heq:signs[k].toNat=s[i].toNat
        ·have d3:((signs[k].toNat:Int)==(s[i].toNat:Int))=true:=by simp;omega
         have HS:=Hi_ (b6F hlt);have HE:=Hi_ heq;clear heq;go_wp2;go_ret2
         exact⟨by unfold b3q;rw[HT2.out,←HE.out,if_pos HS.out];rfl,rfl⟩
        ·have d3:((signs[k].toNat:Int)==(s[i].toNat:Int))=false:=by simp;omega
         have HE:=Hi_ heq;clear heq;go_wp2;go_round
         case rel =>
          refine⟨k+1,by omega,by go_num,fun j hj h=>?_⟩;by_cases hjk:j=k
          ·subst hjk;exact HE.out
          ·exact HK.out j hj (by omega)
         case measure=>simp[intOf];omega
       ·have HS:=Hi_ (b6E (c:=s[i].toNat) (fun j hj=>HK.out j hj (by omega)));go_wp2;go_ret2
        exact⟨by unfold b3q;rw[HT2.out,if_neg (by simp[HS.out])];rfl,rfl⟩
    ·have d1:((s[i].toNat:Int)==61)=false:=by simp;omega
     have H61:=Hi_ h61;clear h61;have hlit:(⟨#[123,125,40,41,91,93,59,44,61,43,45,42,47,37,60]⟩:ByteArray)=signs:=rfl;go_enter Tryz.func92,Tryz.ntmps92;go_wp2_with (first | (go_at_call 145;refine(b1h _ hb2 _).mono ?_;rintro e w' ⟨rfl,rfl⟩;simp only[hL]) | (go_at_call 95;refine(b1C _ hb2 _).mono ?_;rintro e w' ⟨rfl,rfl⟩;simp only[hD]))
     clear hL hD;go_loop [9] (fun n=>∃k:Nat,k≤15∧n=.int .i64 k∧Hid (∀j (hj:j<signs.size),j<k→signs[j].toNat≠s[i].toNat)) (fun n=>15-(intOf n).toNat)
     case atStart=>exact⟨0,by omega,rfl,fun j _ h=>absurd h (by omega)⟩
     case round =>
      obtain⟨k,hk,rfl,HK⟩:=hrel;by_cases hlt:k<signs.size
      ·by_cases heq:signs[k].toNat=s[i].toNat
       ·have d3:((signs[k].toNat:Int)==(s[i].toNat:Int))=true:=by simp;omega
        have HS:=Hi_ (b6F hlt);have HE:=Hi_ heq;clear heq;go_wp2;go_ret2
        exact⟨by unfold b3q;rw[HT2.out,←HE.out,if_pos HS.out];rfl,rfl⟩
       ·have d3:((signs[k].toNat:Int)==(s[i].toNat:Int))=false:=by simp;omega
        have HE:=Hi_ heq;clear heq;go_wp2;go_round
        case rel =>
         refine⟨k+1,by omega,by go_num,fun j hj h=>?_⟩;by_cases hjk:j=k
         ·subst hjk;exact HE.out
         ·exact HK.out j hj (by omega)
        case measure=>simp[intOf];omega
      ·have HS:=Hi_ (b6E (c:=s[i].toNat) (fun j hj=>HK.out j hj (by omega)));go_wp2;go_ret2
       exact⟨by unfold b3q;rw[HT2.out,if_neg (by simp[HS.out])];rfl,rfl⟩
theorem b7c(a:ByteArray):∀(n i:Nat) (r:List UInt8),a.size-i=n→ByteArray.toList.loop a i r=r.reverse++a.data.toList.drop i
 | n,i,r,hn=>by
  rw[ByteArray.toList.loop];by_cases h:i<a.size
  ·rw[if_pos h,b7c a (n-1) (i+1) _ (by omega)];have h2:i<a.data.toList.length:=by simpa using h
   rw[List.drop_eq_getElem_cons h2,List.reverse_cons,List.append_assoc]
   congr 1
   show a.get! i::_=_
   have:a.get! i=a.data.toList[i]:=by
    show a.data[i]! = _;rw[getElem!_pos a.data i (by simpa using h)];simp
   rw[this];rfl
  ·rw[if_neg h,List.drop_of_length_le (by simpa using h),List.append_nil]
termination_by n=>n
theorem b2a(a:ByteArray):a.toList=a.data.toList:=by
 rw[ByteArray.toList,b7c a _ 0 [] rfl];simp
theorem b8H(a b:ByteArray):(a.toList==b.toList)=decide (a=b):=by
 rw[b2a,b2a,Bool.eq_iff_iff];simp
 constructor
 ·intro h;cases a;cases b;simp at h;rw[h]
 ·intro h;rw[h]
theorem b2x{a b:ByteArray}(h:a=b):(a.toList==b.toList)=true:=by rw[b8H];exact decide_eq_true h
theorem b2U{a b:ByteArray}(h:a≠b):(a.toList==b.toList)=false:=by rw[b8H];exact decide_eq_false h
def Tok.cells(t:Tok):List Value:=[.int .i64 t.kind,.int .i64 t.at_,.string t.text]
def b1V:Rep Tok where
 size:=3
 R _ cs e:=cs=e.cells
 len h:=by subst h;rfl
 keep _ h:=h
def c7V(w:World)(b o:Nat)(e:Tok):Prop:=w.cell? ⟨b,o,none⟩=some (.int .i64 e.kind)∧w.cell? ⟨b,o+1,none⟩=some (.int .i64 e.at_)∧w.cell? ⟨b,o+2,none⟩=some (.string e.text)
theorem b1V.cells{w:World}{b o:Nat}{xs:List Tok}(h:∀k x,xs[k]? = some x→b1V.At w b (o+k*b1V.size) x){k:Nat}{x:Tok}(hk:xs[k]? = some x):c7V w b (o+k*3) x:=by
 obtain⟨cs,hc,hcs⟩:=h k x hk;have e:cs=x.cells:=hc;subst e;exact⟨hcs 0 _ rfl,hcs 1 _ rfl,hcs 2 _ rfl⟩
theorem c0x{α:Type}{f:α→List Value}{n:Nat}(hf:∀x,(f x).length=n):∀(xs:List α) (k:Nat) (x:α),xs[k]? = some x→((xs.flatMap f).drop (k*n)).take n=f x
 | [],k,x,h=>by simp at h
 | y::ys,0,x,h=>by
  obtain rfl:y=x:=by simpa using h
  rw[List.flatMap_cons,Nat.zero_mul,List.drop_zero,List.take_append_of_le_length (by rw[hf];exact Nat.le_refl _),List.take_of_length_le (by rw[hf];exact Nat.le_refl _)]
 | y::ys,k+1,x,h=>by
  rw[List.flatMap_cons,List.drop_append,List.drop_of_length_le (by rw[hf,Nat.add_mul];omega),List.nil_append,hf,show(k+1)*n-n=k*n by rw[Nat.add_mul];omega];exact c0x hf ys k x (by simpa using h)
theorem Sl.own_tok{w:World}{base:Nat}{e:TypeId}{v:Value}{n:Nat}{xs:List Tok}(h:w.ownsRow base e 3 v n (xs.flatMap Tok.cells))(hn:n=xs.length):Sl b1V w v xs:=
 Sl.own (r:=b1V) h hn fun k x hx=>c0x (n:=3) (fun _=>rfl) xs k x hx
def sp:ByteArray:=⟨#[32]⟩
def emp:ByteArray:=⟨#[]⟩
end Go.Proofs.YtmfjlcpjemccmaaGreatDoor
