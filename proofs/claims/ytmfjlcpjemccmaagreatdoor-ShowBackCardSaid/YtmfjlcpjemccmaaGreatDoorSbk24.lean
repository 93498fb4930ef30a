/- The printer's state between its calls; lines in plain words; a list of texts that is laid. Each lemma states its own conditions. -/
import Derived.Test.YtmfjlcpjemccmaaGreatDoorSbk23
namespace Go.Proofs.YtmfjlcpjemccmaaGreatDoor
open Go.RowKit
theorem b2G{o:Oper}{ρ:Operand→Value}{W:World}(n:Nat)(parts:Array (Nat×Operand))(cs:List Value)(ho:o.op=.buildSlice 44 n parts)(h0:0<n)(h1:n≤100)
  (hf:Instr.fill (fun i=>some (i,1)) (Array.replicate n (Value.string ⟨#[]⟩)) (List.map (fun x=>(x.fst,ρ x.snd)) parts.toList)=some cs.toArray) :
  (execOp ρ o).run Tryz.prog W=.ok (.value (.slice (some ⟨W.heap.size,0,none⟩) n n)) (W.alloc (.cells cs.toArray 9)):=by
 have hz:Array.map (fun x=>[Value.string ⟨#[]⟩][x % 1]?.getD default) (Array.range n)=Array.replicate n (Value.string ⟨#[]⟩):=by
  apply Array.ext
  ·simp
  ·intro i h1 h2;simp[Nat.mod_one]
 simp[execOp,ho,Instr.buildSlice,go_sem];rw[if_neg (by omega),if_neg (by omega),hz,hf];simp[go_sem]
def PrS(B q:Nat)(n:Nat)(s:ByteArray)(w:World):Prop:=Pr B q n (Lib.strCells s) w
theorem PrS.keep{B q n:Nat}{s:ByteArray}{w w':World}(h:PrS B q n s w)(hb:Bel w w'):PrS B q n s w':=Pr.keep h hb
theorem b2k{w0 w:World}{q n:Nat}{s:ByteArray}(l:List ByteArray)(g:Nat)(h:PrS w0.heap.size q n s w)(hx:Bel w0 w)(hg:Blk w g 9 (l.map Value.string).toArray)(hn:n≤100000)(hs:s.size≤1000000)(hc:(b2j l).size≤700000)(hl:l.length≤100) :
  Calls Tryz.prog 76 #[.pointer (some ⟨q,0,none⟩),.slice (some ⟨g,0,none⟩) l.length l.length] w fun r w'=>r=.returned (.tuple #[])∧PrS w0.heap.size q n (s++b1W n l) w'∧Kp w0.heap.size q w w':=by
 refine(c6U l g h hg hx.size hn (by rw[Lib.strCells_length];exact hs) hc hl).mono fun r w' hh=>⟨hh.1,?_,hh.2.2⟩;unfold PrS;rw[b9k];exact hh.2.1
theorem Kp.bel{w0 w w':World}{q:Nat}(hx:Bel w0 w)(h:Kp w0.heap.size q w w'):Bel w0 w':=Below.trans hx h.1
theorem c8P(n:Nat)(a e:ByteArray):b1W n [a,⟨#[32,61,32]⟩,e,⟨#[59]⟩]=b2d n++(a++(isB++(e++b7f))):=by
 unfold b1W;simp only[b2j,ByteArray.append_assoc];rfl
theorem c8Q(n:Nat)(a i e:ByteArray):b1W n [a,⟨#[91]⟩,i,⟨#[93,32,61,32]⟩,e,⟨#[59]⟩]=b2d n++(a++(b1o++(i++(c7n++(e++b7f))))):=by
 unfold b1W;simp only[b2j,ByteArray.append_assoc];rfl
theorem c8R(n:Nat)(a t c:ByteArray):b1W n [a,⟨#[32,61,32]⟩,t,⟨#[40]⟩,c,⟨#[41,59]⟩]=b2d n++(a++(isB++(t++(b0T++(c++c7Y))))):=by
 unfold b1W;simp only[b2j,ByteArray.append_assoc];rfl
theorem c8S(n:Nat)(a:ByteArray):b1W n [a,⟨#[32,61,32,114,101,97,100,59]⟩]=b2d n++(a++rdB):=by
 unfold b1W;simp only[b2j,ByteArray.append_assoc];rfl
theorem c8T(n:Nat)(e:ByteArray):b1W n [⟨#[112,114,105,110,116,32]⟩,e,⟨#[59]⟩]=b2d n++(c7m++(e++b7f)):=by
 unfold b1W;simp only[b2j,ByteArray.append_assoc];rfl
theorem c7f(n:Nat)(e:ByteArray):b1W n [⟨#[105,102,32]⟩,e,⟨#[32,123]⟩]=b2d n++(c7d++(e++c5U)):=by
 unfold b1W;simp only[b2j,ByteArray.append_assoc];rfl
theorem c8U(n:Nat)(e:ByteArray):b1W n [⟨#[119,104,105,108,101,32]⟩,e,⟨#[32,123]⟩]=b2d n++(c8C++(e++c5U)):=by
 unfold b1W;simp only[b2j,ByteArray.append_assoc];rfl
theorem c5J(n:Nat):b1W n [⟨#[125,32,101,108,115,101,32,123]⟩]=b2d n++c7c:=by
 unfold b1W;simp only[b2j,ByteArray.append_assoc];rfl
theorem b7G(n:Nat):b1W n [⟨#[125]⟩]=b2d n++c4X:=by
 unfold b1W;simp only[b2j,ByteArray.append_assoc];rfl
theorem c5L:b1W 0 [⟨#[109,97,105,110,32,123]⟩]=c8H:=by rfl
theorem c5K(a c:ByteArray):b1W 0 [⟨#[102,117,110,99,32]⟩,a,⟨#[40]⟩,c,⟨#[41,32,123]⟩]=c8F++(a++(b0T++(c++c8G))):=by
 unfold b1W;simp only[b2j,ByteArray.append_assoc];rfl
theorem c6T(a:ByteArray):b1W 1 [⟨#[118,97,114,32]⟩,a,⟨#[59]⟩]=vaB++(a++b7f):=by
 unfold b1W;simp only[b2j,ByteArray.append_assoc];rfl
theorem c6R(a d:ByteArray):b1W 1 [⟨#[97,114,114,32]⟩,a,⟨#[32]⟩,d,⟨#[59]⟩]=arB++(a++(spB++(d++b7f))):=by
 unfold b1W;simp only[b2j,ByteArray.append_assoc];rfl
theorem c6S(e:ByteArray):b1W 1 [⟨#[114,101,116,117,114,110,32]⟩,e,⟨#[59]⟩]=c8J++(e++b7f):=by
 unfold b1W;simp only[b2j,ByteArray.append_assoc];rfl
end Go.Proofs.YtmfjlcpjemccmaaGreatDoor
