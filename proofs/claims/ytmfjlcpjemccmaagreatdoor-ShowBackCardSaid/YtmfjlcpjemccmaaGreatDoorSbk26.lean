/- The printer of trees prints blocks: walked. Each lemma states its own conditions. -/
import Derived.Test.YtmfjlcpjemccmaaGreatDoorSbk25
namespace Go.Proofs.YtmfjlcpjemccmaaGreatDoor
set_option maxRecDepth 20000
set_option maxHeartbeats 4000000
open Go.RowKit
def c8t(w0:World)(x:TC):Prop:=∀(n q:Nat) (s:ByteArray) (cs:List Value) (w:World),TCR w0 x cs→Bel w0 w→PrS w0.heap.size q n s w→x.ok=true→(x.text (b2d n)).size≤100000→s.size+(x.text (b2d n)).size≤1000000 →
 Calls Tryz.prog 136 #[.pointer (some ⟨q,0,none⟩),.agg cs.toArray] w fun r w'=>r=.returned (.tuple #[])∧PrS w0.heap.size q n (s++x.text (b2d n)) w'∧Kp w0.heap.size q w w'
theorem PrS.up{B q n:Nat}{s:ByteArray}{w:World}(h:PrS B q n s w):PrS B q (n+1) s (w.setCell ⟨q,2,none⟩ (.int .i64 ((n:Int)+1)))∧Kp B q w (w.setCell ⟨q,2,none⟩ (.int .i64 ((n:Int)+1))):=Pr.to_ h ((n:Int)+1)
theorem PrS.down{B q n:Nat}{s:ByteArray}{w:World}(h:PrS B q (n+1) s w):PrS B q n s (w.setCell ⟨q,2,none⟩ (.int .i64 n))∧Kp B q w (w.setCell ⟨q,2,none⟩ (.int .i64 n)):=Pr.to_ h n
theorem PrS.deep{B q n:Nat}{s:ByteArray}{w:World}(h:PrS B q n s w):w.cell? ⟨q,2,none⟩=some (.int .i64 n)∧w.frozen? ⟨q,2,none⟩=false:=Pr.deep h
theorem b4Z(w0:World)(l:List TC)(IH:∀x∈l,c8t w0 x):c0h w0 l:=by
 intro n q s v w h hx hp hok hn hz1 hz2;rw[←c3Z] at hz1 hz2 ⊢;have HSL:=Hi_ h;have HI:=Hi_ IH;have HOK:=Hi_ hok;have HEND:Hid (s++b0l (l.drop 0) (b2d (n+1))=s++b0l l (b2d (n+1))):=Hi_ rfl;have hz3:(s++b0l l (b2d (n+1))).size≤1000000:=by rw[ByteArray.size_append];exact hz2
 have HZ1:=Hi_ hz1;obtain⟨T,hT⟩:∃T,s++b0l l (b2d (n+1))=T:=⟨_,rfl⟩;have HTT:=Hi_ hT
 have HSUB:Hid (∀(j:Nat) (x:TC),l[j]? = some x→(x.text (b2d (n+1))).size≤(b0l l (b2d (n+1))).size):=Hi_ (by
  clear h hx hp hok hz1 hz2 hz3 HSL HOK HEND HZ1 hT HTT HI IH;induction l with
  | nil=>intro j x hx;simp at hx
  | cons y ys ih =>
   intro j x hx;rw[b0l,ByteArray.size_append];cases j with
   | zero =>
    obtain rfl:y=x:=by simpa using hx
    omega
   | succ j =>
    have:=ih j x (by simpa using hx);omega)
 obtain⟨A,c,rfl,hc,hm,-⟩:=h;have hll:l.length≤9223372036854775807:=by have:=hm.1;simp only[maxLen] at this;omega
 obtain⟨c2,f2⟩:=hp.deep;obtain⟨hu,hk⟩:=hp.up;have HP:=Hi_ hu;have HKp:=Hi_ hk;have HX:=Hi_ (Kp.bel hx hk);have HPEND:Hid (∀w',PrS w0.heap.size q n T w'→PrS w0.heap.size q n (s++b0l l (b2d (n+1))) w'):=Hi_ fun w' h=>by rw[hT];exact h
 rw[hT] at HEND hz3;clear hc hm hok hp hu hk hz1 hz2 IH hx hT HTT;go_enter Tryz.func78,Tryz.ntmps78;go_upto_region 1 with fail;clear c2 f2;generalize w.setCell ⟨q,2,none⟩ (.int .i64 ((n:Int)+1))=W1 at *;go_wp2;go_loopw [15] (fun i wr=>∃(j:Nat) (t:ByteArray),i=.int .i64 j∧j≤l.length∧Hid (t++b0l (l.drop j) (b2d (n+1))=T)∧Hid (PrS w0.heap.size q (n+1) t wr)∧Hid (Kp w0.heap.size q w wr)∧Hid (Bel w0 wr)) (fun i _=>l.length-(intOf i).toNat)
 case atStart=>exact⟨0,s,rfl,Nat.zero_le _,HEND,HP,HKp,HX⟩
 case round =>
  obtain⟨j,t,rfl,hj,HS,HP,HKp,HX⟩:=hrel;obtain⟨WO,hWO⟩:∃W,W=wr:=⟨_,rfl⟩;subst hWO;clear HEND;by_cases hlt:j<l.length
  rotate_left
  ·have hdd:decide ((j:Int)<l.length)=false:=decide_eq_false (by omega);have HR:Hid (t=T):=Hi_ (by rw[←HS.out,c2a (by omega)];exact ByteArray.append_empty.symm);obtain⟨c2,f2⟩:=HP.out.deep;obtain⟨hd,hk⟩:=HP.out.down;have HPD:=Hi_ hd;have HKD:=Hi_ (HKp.out.tr hk);clear hd hk;have c2':WO.cell? ⟨q,2,none⟩=some (.int .i64 ((n:Int)+1)):=c2;clear c2;go_wp2;go_end0
   refine⟨rfl,HPEND.out _ ?_,?_⟩
   ·rw[←HR.out]
    simpa using HPD.out
   ·simpa using HKD.out
  have hdd:decide ((j:Int)<l.length)=true:=decide_eq_true (by omega);obtain⟨x,hx⟩:∃x,l[j]? = some x:=⟨_,List.getElem?_eq_getElem hlt⟩;obtain⟨b,o,cs,rfl,hcs,hca⟩:=c7w HSL.out hx;have HS2:Hid ((t++x.text (b2d (n+1)))++b0l (l.drop (j+1)) (b2d (n+1))=T):=Hi_ (by rw[ByteArray.append_assoc,←c0X hx];exact HS.out)
  have hz:t.size+(x.text (b2d (n+1))).size≤1000000:=by
   have h1:=hz3;rw[←HS2.out,ByteArray.size_append,ByteArray.size_append] at h1;omega
  have HC:=Hi_ (fun W (h1:Bel w0 W) (h2:PrS w0.heap.size q (n+1) t W)=>HI.out x (List.mem_of_getElem? hx) (n+1) q t cs W hcs h1 h2 (c6c HOK.out hx) (Nat.le_trans (HSUB.out j x hx) HZ1.out) hz);have i0:(0:Int)≤j:=by omega
  have i1:(j:Int)<l.length:=by omega
  have HCS:=Hi_ hcs;have HL:=Hi_ (tcR.len hcs);have HCA:=Hi_ (hca.keep HX.out);clear hcs hca hx HS HI HSUB;go_upto_region 4 with(refine c0o (.tmp 17) (.tmp 5) (.tmp 18) rfl rfl rfl rfl rfl rfl b (o+j*17) (by exact rfl) cs HCA.out (HCS.out.keep HX.out) (by exact rfl) (by exact rfl) ?_);have HK:=Hi_ (Blk.new WO 53 cs.toArray);replace HKp:=Hi_ (HKp.out.tr (Kp.of ((Bel.rfl_ WO).al (.cells cs.toArray 53)) HX.out.size));replace HP:=Hi_ (HP.out.keep ((Bel.rfl_ WO).al (.cells cs.toArray 53)));replace HX:=Hi_ (HX.out.al (.cells cs.toArray 53));clear HCS HCA;generalize hW1:WO.alloc _=W2 at *;clear hW1;generalize WO.heap.size=K at *;refine b0E ?_;try dsimp only[List.append]
  refine b0P (some 19) (.pointer (some ⟨q,0,none⟩)) ?_;refine b0R (some 20) _ (b0B 53 (.tmp 5) rfl b8g K 0 (by kernel_rfl) cs (b3V HK.out) HL.out (by kernel_rfl)) ?_;refine b0W (some 21) 136 #[.pointer (some ⟨q,0,none⟩),.agg cs.toArray] (HC.out _ HX.out HP.out) ?_;rintro r W3 ⟨rfl,hp,hk⟩;replace HX:=Hi_ (Kp.bel HX.out hk);replace HKp:=Hi_ (HKp.out.tr hk);replace HP:=Hi_ hp;clear hp hk HK HC;refine⟨_,rfl,?_⟩;refine b0C ?_;try simp only[Act.put,lA,lB,lC]
  go_wp2;go_roundw
  case rel=>exact⟨j+1,_,by go_num,by omega,HS2,HP,HKp,HX⟩
  case measure=>simp[intOf];omega
theorem c3y(w0:World)(ht:Tab w0)(x:TC):c8t w0 x:=by
 induction x using TC.ind with
 | h k a s t i e args thn els ih1 ih2=>exact fun n q s' cs w h hx hp hok hz1 hz2=>c2K w0 ht (.mk k a s t i e args thn els) n q s' cs w h hx hp hok hz1 hz2 (b4Z w0 thn ih1) (b4Z w0 els ih2)
theorem c0K(w0:World)(ht:Tab w0)(l:List TC):c0h w0 l:=b4Z w0 l fun x _=>c3y w0 ht x
section
variable {o:Oper}{ρ:Operand→Value}{W:World}{x y:Operand}{b f n c k:Nat}
theorem c8d(ho:o.op=.indexAddr 45 x y)(hx:ρ x=.slice (some ⟨b,f,none⟩) n c)(hy:ρ y=.int .i64 k)(h1:k<n):(execOp ρ o).run Tryz.prog W=.ok (.value (.pointer (some ⟨b,f+k*2,none⟩))) W:=by
 have i0:(0:Int)≤k:=by omega
 have i1:(k:Int)<n:=by omega
 simp[execOp,ho,hx,hy,go_sem];intro h;exact absurd h (by omega)
theorem c4B(ho:o.op=.indexAddr 46 x y)(hx:ρ x=.slice (some ⟨b,f,none⟩) n c)(hy:ρ y=.int .i64 k)(h1:k<n):(execOp ρ o).run Tryz.prog W=.ok (.value (.pointer (some ⟨b,f+k*17,none⟩))) W:=by
 have i0:(0:Int)≤k:=by omega
 have i1:(k:Int)<n:=by omega
 simp[execOp,ho,hx,hy,go_sem];intro h;exact absurd h (by omega)
end
theorem c0Z{l:List TF}{k:Nat}{x:TF}(hx:l[k]? = some x):b1Z (l.drop k)=x.text (decide (k+1=l.length))++b1Z (l.drop (k+1)):=by
 obtain⟨hl,rfl⟩:=List.getElem?_eq_some_iff.1 hx;rw[List.drop_eq_getElem_cons hl,b1Z,List.length_drop]
 congr 2
 exact decide_eq_decide.2 (by omega)
theorem c2b{l:List TF}{k:Nat}(h:l.length≤k):b1Z (l.drop k)=emp:=by rw[List.drop_eq_nil_of_le h,b1Z]
theorem c3m:∀{l:List TF} (_:b4R l=true) {k:Nat} {x:TF} (_:l[k]? = some x),x.ok (decide (k+1=l.length))=true
 | [],_,k,x,hx=>by simp at hx
 | [f],h,k,x,hx=>by
  match k with
  | 0 =>
   obtain rfl:f=x:=by simpa using hx
   exact h
  | k+1=>simp at hx
 | f::g::l,h,k,x,hx=>by
  rw[b4R,Bool.and_eq_true] at h
  match k with
  | 0 =>
   obtain rfl:f=x:=by simpa using hx
   have:decide (0+1=(f::g::l).length)=false:=by simp
   rw[this];exact h.1
  | k+1 =>
   have h2:=c3m h.2 (k:=k) (x:=x) (by simpa using hx);rw[List.length_cons];have:decide (k+1+1=(g::l).length+1)=decide (k+1=(g::l).length):=decide_eq_decide.2 (by omega);rw[this];exact h2
theorem c0c{l:List TV}{k:Nat}{x:TV}(hx:l[k]? = some x):b2A (l.drop k)=x.text++b2A (l.drop (k+1)):=by
 obtain⟨hl,rfl⟩:=List.getElem?_eq_some_iff.1 hx;rw[List.drop_eq_getElem_cons hl,b2A]
theorem c2c{l:List TV}{k:Nat}(h:l.length≤k):b2A (l.drop k)=emp:=by rw[List.drop_eq_nil_of_le h,b2A]
theorem TF.parts{x:TF}{m:Bool}(h:x.ok m=true):(m=false→x.result.ok=true)∧(∀v∈x.vars,v.ok=true)∧b1l x.cmds=true:=by
 unfold TF.ok at h;simp only[Bool.and_eq_true] at h;refine⟨fun hm=>?_,List.all_eq_true.1 h.1.2,by rw[b1u];exact h.2⟩;subst hm;have:=h.1.1.1;rw[if_neg (by decide),Bool.and_eq_true] at this;exact this.2
theorem TV.range{v:TV}(h:v.ok=true):-9999999≤v.size∧v.size≤9999999:=by
 unfold TV.ok at h;rw[Bool.and_eq_true] at h;have:=of_decide_eq_true h.2;omega
end Go.Proofs.YtmfjlcpjemccmaaGreatDoor
