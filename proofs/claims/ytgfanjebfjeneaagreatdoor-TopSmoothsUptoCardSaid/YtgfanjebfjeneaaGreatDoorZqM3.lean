/-
 Strings. Names of numbers; places. Plain facts on whole numbers as lists of words. Calls that lay a number into new memory; appending to nothing. All that an exact dot product comes by is small.
-/
import Derived.Test.YtgfanjebfjeneaaGreatDoorZqM2
import Derived.Test.YtgfanjebfjeneaaGreatDoorZqM1
set_option linter.unusedVariables false
set_option linter.unusedSimpArgs false
namespace Go.Bn
open Go
abbrev a1F(b:ByteArray):SP:=CW (.string b)
section ops
variable {P:Program} {n:Nat} {ops:Array Oper} {Γ:D2} {ρ:DU} {δ:DK} {τ:List VR}
variable {d:Nat} {ty:TypeId} {pos:String} {af:Array Edge}
theorem FX{x y:Operand}{T:TypeId}{k:IntKind}{z:Int}{s:ByteArray}{v:UInt8}(hT:P.underlying T=some .string)(hx:Lk Γ δ ρ x (a1F s))(hy:Lk Γ δ ρ y (CW (.int k z)))(h0:0≤z)(hv:s[z.toNat]? =some v):
  OpOK P n ops Γ ρ δ τ ⟨some d,.index T x y,ty,pos,af,none⟩ .no (.c (CW (.int .u8 (v.toNat:Int)))) ET:=
 DE fun A c _ hr=>by
  have h1:=(hr x _ (by simp[Op.operands]) hx).1
  have h2:=(hr y _ (by simp[Op.operands]) hy).1
  exact⟨.int .u8 v.toNat,by simp[execOp,Instr.index,h1,h2,asIntOf,run_underlying hT,h0,hv],rfl,rfl⟩
end ops
section ops
variable {P:Program} {n:Nat} {ops:Array Oper} {Γ:D2} {ρ:DU} {δ:DK} {τ:List VR}
variable {d:Nat} {ty:TypeId} {pos:String} {af:Array Edge}
theorem RH{x hi:Operand}{T E es eb:Nat}{k2:IntKind}{h:Int}{m m':Nat}{cells cells':List SP}(ht:Iu P T=some (E,es,eb))(hx:Lk Γ δ ρ x (Mv m es cells))(hhi:Lk Γ δ ρ hi (CW (.int k2 h)))
  (h1:0≤h) (h2:h≤m) (hm:h=m') (hlen:cells'.length=m'*es) (hp: ∀ j p,nth cells' j=some p→nth cells j=some p):
  OpOK P n ops Γ ρ δ τ ⟨some d,.slice T x none (some hi) none,ty,pos,af,none⟩ .no (.c (Mv m' es cells')) ET:=
 DE fun a c _ hr=>by
  obtain⟨hl,hv⟩:=hr x _ (by simp[Op.operands]) hx
  have hz2:=(hr hi _ (by simp[Op.operands]) hhi).1
  obtain⟨hu,i,hi',hs,_⟩:=Ll ht
  have hm':h.toNat=m':=by omega
  rcases hv with ⟨h3,h4⟩|⟨ad,cap,h3,h4,h5,h6⟩
  ·subst h4
   have hh0:h=0:=by omega
   subst hh0
   have hm0:m'=0:=by omega
   subst hm0
   refine⟨.slice none 0 0,?_,hlen,.inl ⟨rfl,rfl⟩⟩
   simp[execOp,Instr.sliceAt,Instr.slice,run_underlying hu,h3,hz2,Instr.sliceBounds,Instr.sliceBound,asIntOf,sizeOf,typeInfo,hi']
  have c1:h≤(cap:Int):=by omega
  refine⟨.slice (some ad) m' cap,?_,hlen,.inr ⟨ad,cap,rfl,by omega,h5,?_⟩⟩
  ·by_cases hc:cap=0
   ·simp[execOp,Instr.sliceAt,Instr.slice,run_underlying hu,h3,hz2,Instr.sliceBounds,Instr.sliceBound,asIntOf,sizeOf,typeInfo,hi',hs,c1,h1,hc,hm']
    omega
   simp[execOp,Instr.sliceAt,Instr.slice,run_underlying hu,h3,hz2,Instr.sliceBounds,Instr.sliceBound,asIntOf,sizeOf,typeInfo,hi',hs,c1,h1,hc,hm']
   rcases ad with ⟨b,off,x⟩
   rfl
  rcases h6 with h6|⟨b,off,ha,h6,cur,U,fz,h7,h8⟩
  ·exact .inl (by omega)
  exact .inr ⟨b,off,ha,h6,cur,U,fz,h7,fun j p hj=>h8 _ p (hp j p hj)⟩
theorem PC{α:Type}{mk:α→List SP}{xs:List α}{x hi:Operand}{T E es eb:Nat}{k2:IntKind}{h:Int}(ht:Iu P T=some (E,es,eb))(hl: ∀ a,(mk a).length=es)(hx:Lk Γ δ ρ x (Lq es mk xs))(hhi:Lk Γ δ ρ hi (CW (.int k2 h)))
  (h1:0≤h) (h2:h≤xs.length):OpOK P n ops Γ ρ δ τ ⟨some d,.slice T x none (some hi) none,ty,pos,af,none⟩ .no (.c (Lq es mk (xs.take h.toNat))) ET:=by
 have e1:(xs.take h.toNat).length=h.toNat:=by rw[A9];omega
 have e2: ∀ ys:List α,(ys.flatMap mk).length=ys.length*es:=by
  intro ys
  induction ys with
  |nil=>simp
  |cons y ys ih=>rw[B8,As,ih,hl,AG,AO];omega
 refine RH (m:=xs.length) (m':=(xs.take h.toNat).length) (cells:=xs.flatMap mk) (cells':=(xs.take h.toNat).flatMap mk) ht hx hhi h1 h2 (by omega) (e2 _) fun j p hj=>?_
 rw[Dq]at hj⊢
 have e3:xs.flatMap mk=(xs.take h.toNat).flatMap mk++(xs.drop h.toNat).flatMap mk:=by rw[←List.flatMap_append,Bu]
 rw[e3,AW ?_]
 ·exact hj
 have:=AU.1 hj
 exact this.1
end ops
def CX:List Int→Int
 |[]=>0
 |x::l=>x+4294967296*CX l
def Fm(l:List Int):Prop:= ∀ z,z∈l→0≤z∧z<4294967296
def DQ(k:Nat):Int:=4294967296^k
theorem JH:DQ 0=1:=rfl
theorem F7(k:Nat):DQ (k+1)=4294967296*DQ k:=by unfold DQ;rw[Int.pow_succ,Ab]
theorem F9: ∀ k:Nat,1≤DQ k
 |0=>by rw[JH];omega
 |k+1=>by have:=F9 k;rw[F7];omega
theorem K6(a b:Nat):DQ (a+b)=DQ a*DQ b:=by unfold DQ;exact Int.pow_add ..
theorem Gj: ∀ l m:List Int,CX (l++m)=CX l+DQ l.length*CX m
 |[],m=>by simp[CX,JH]
 |x::l,m=>by
  rw[List.cons_append,CX,Gj l m,CX,AG,F7,Al,Aw]
  omega
theorem NZ(z:Int):CX [z]=z:=by simp[CX]
theorem OY(l:List Int)(z:Int):CX (l++ [z])=CX l+DQ l.length*z:=by rw[Gj,NZ]
theorem Fm.tail{x:Int}{l:List Int}(h:Fm (x::l)):Fm l:=fun z hz=>h z (Bt _ hz)
theorem Fm.head{x:Int}{l:List Int}(h:Fm (x::l)):0≤x∧x<4294967296:=h x (C4 ..)
theorem Fm.at{l:List Int}(h:Fm l){k:Nat}(hk:k<l.length):0≤l.getD k 0∧l.getD k 0<4294967296:=h _ (IJ 0 hk)
theorem Fm.take{l:List Int}(h:Fm l)(k:Nat):Fm (l.take k):=fun z hz=>h z (CA hz)
theorem Fm.drop{l:List Int}(h:Fm l)(k:Nat):Fm (l.drop k):=fun z hz=>h z (List.mem_of_mem_drop hz)
theorem Fm.set{l:List Int}(h:Fm l){k:Nat}{v:Int}(hv:0≤v∧v<4294967296):Fm (l.set k v):=fun z hz=>by
 rcases List.mem_or_eq_of_mem_set hz with h1|h1
 ·exact h z h1
 rw[h1];exact hv
theorem TO:Fm []:=fun z hz=>by cases hz
theorem KT(n:Nat):Fm (List.replicate n 0):=fun z hz=>by rw[(List.mem_replicate.1 hz).2];omega
theorem O1: ∀ n:Nat,CX (List.replicate n 0)=0
 |0=>rfl
 |n+1=>by rw[C5,CX,O1 n];omega
theorem DR: ∀ {l:List Int},Fm l→0≤CX l
 |[],_=>by simp[CX]
 |x::l,h=>by have:=DR h.tail;have:=h.head;rw[CX];omega
theorem FJ: ∀ {l:List Int},Fm l→CX l<DQ l.length
 |[],_=>by simp[CX,JH]
 |x::l,h=>by have:=FJ h.tail;have:=h.head;rw[CX,AG,F7];omega
def CR(n:Nat):List Int:=if h:n=0 then []else((n % 4294967296:Nat):Int)::CR (n/4294967296)
termination_by n
decreasing_by exact BE (by omega) (by omega)
theorem Fg:CR 0=[]:=by rw[CR];simp
theorem Jk{n:Nat}(h:n≠0):CR n=((n % 4294967296:Nat):Int)::CR (n/4294967296):=by rw[CR];simp[h]
theorem D8: ∀ n:Nat,Fm (CR n):=by
 intro n
 induction n using Nat.strongRecOn with
 |_ n ih=>
  by_cases h:n=0
  ·rw[h,Fg];exact TO
  rw[Jk h]
  intro z hz
  rcases AH.1 hz with rfl|hz
  ·omega
  exact ih _ (BE (by omega) (by omega)) z hz
theorem Dt: ∀ n:Nat,CX (CR n)=n:=by
 intro n
 induction n using Nat.strongRecOn with
 |_ n ih=>
  by_cases h:n=0
  ·rw[h,Fg];rfl
  rw[Jk h,CX,ih _ (BE (by omega) (by omega))]
  omega
theorem Fo{n:Nat}:(CR n).length=0↔n=0:=by
 constructor
 ·intro h
  have:=Dt n
  rw[BC.1 h,CX]at this
  omega
 rintro rfl;rw[Fg];rfl
def Vp(l:List Int):Prop:=l=[]∨l.getD (l.length-1) 0≠0
theorem ZF{x y:Int}{l:List Int}(h:Vp (x::y::l)):Vp (y::l):=by
 rcases h with h|h
 ·cases h
 right
 simpa[List.getD]using h
theorem Wr: ∀ {l:List Int},Fm l→Vp l→CR (CX l).toNat=l
 |[],_,_=>by simp[CX,Fg]
 |[x],hd,ht=>by
  have h1:=hd.head
  have h2:x≠0:=by
   rcases ht with h|h
   ·cases h
   simpa using h
  rw[NZ,Jk (by omega),show x.toNat/4294967296=0 by omega,Fg]
  congr 1;omega
 |x::y::l,hd,ht=>by
  have ih:=Wr hd.tail (ZF ht)
  have h1:=hd.head
  have h3:=DR hd.tail
  have h4:(CX (y::l)).toNat≠0:=by
   intro e
   rw[e,Fg]at ih
   cases ih
  rw[CX]
  generalize CX (y::l)=m at*
  rw[Jk (by omega),show(x+4294967296*m).toNat/4294967296=m.toNat by omega,ih]
  congr 1;omega
theorem JW(n:Nat):Vp (CR n):=by
 induction n using Nat.strongRecOn with
 |_ n ih=>
  by_cases h:n=0
  ·left;rw[h,Fg]
  right
  have ih2:=ih _ (BE (show 0<n by omega) (show 1<4294967296 by omega))
  rw[Jk h]
  by_cases h2:n/4294967296=0
  ·rw[h2,Fg]
   simp[List.getD]
   omega
  rcases ih2 with h3|h3
  ·have:=Fo (n:=n/4294967296)
   rw[h3]at this
   simp at this
   omega
  have hl:0<(CR (n/4294967296)).length:=by
   rcases BN (CR (n/4294967296)).length with h4|h4
   ·exact absurd (Fo.1 h4) h2
   exact h4
  rw[AG,show(CR (n/4294967296)).length+1-1=((CR (n/4294967296)).length-1)+1 by omega]
  simpa[List.getD]using h3
theorem Mx{l:List Int}{k:Nat}(hk:k<l.length):l.take (k+1)=l.take k++ [l.getD k 0]:=GA 0 hk
theorem j3{l:List Int}{k:Nat}(hk:k<l.length)(hz:l.getD k 0=0):CX (l.take k)=CX (l.take (k+1)):=by
 rw[Mx hk,OY,hz];omega
theorem Jt{l:List Int}{k:Nat}(hk:k<l.length):(l.take (k+1)).getD k 0=l.getD k 0:=by
 simp[List.getD,B9,hk]
theorem QQ{l:List Int}{k:Nat}(hd:Fm l)(hk:k≤l.length)(hm:CX (l.take k)=CX l)(h:k=0∨l.getD (k-1) 0≠0):l.take k=CR (CX l).toNat:=by
 rw[←hm]
 refine(Wr (hd.take k) ?_).symm
 by_cases h0:k=0
 ·left;rw[h0];rfl
 right
 rcases h with h|h
 ·exact absurd h h0
 have e:(l.take k).length=k:=by rw[A9];omega
 rw[e]
 obtain⟨j,rfl⟩: ∃ j,k=j+1:=⟨k-1,by omega⟩
 rw[show j+1-1=j by omega]at h⊢
 rw[Jt (by omega)]
 exact h
structure cW(a b l:List Int)(k:Nat)(c:Int):Prop where
 hk:k≤a.length
 hl:l.length=a.length+1
 hd:Fm l
 hc:0≤c∧c≤1
 hm:CX (l.take k)+DQ k*c=CX (a.take k)+CX (b.take k)
theorem WZ{a b:List Int}{m:Nat}(hm:m=a.length+1):cW a b (List.replicate m 0) 0 0:=by
 subst hm
 exact⟨A7 _,by rw[Am],KT _,by omega,by simp[CX]⟩
theorem Xr{l:List Int}{k:Nat}{v:Int}(hk:k<l.length):(l.set k v).take (k+1)=l.take k++ [v]:=by
 rw[GA 0 (by rw[Aa];exact hk)]
 congr 1
 ·rw[List.take_set_of_le (A5 k)]
 simp[List.getD,hk]
theorem II{l:List Int}{k:Nat}{v:Int}(hk:k<l.length):CX ((l.set k v).take (k+1))=CX (l.take k)+DQ k*v:=by
 rw[Xr hk,OY,A9,At (by omega)]
theorem F4{l:List Int}{k:Nat}(hk:k<l.length):CX (l.take (k+1))=CX (l.take k)+DQ k*l.getD k 0:=by
 rw[Mx hk,OY,A9,At (by omega)]
theorem Du{l:List Int}{k:Nat}(hk:l.length≤k):l.take k=l:=AN hk
theorem Oc{a b l:List Int}{k:Nat}{c s:Int}(ha:Fm a)(hb:Fm b)(h:cW a b l k c)(hk:k<a.length)(hs:s=a.getD k 0+c+(if k<b.length then b.getD k 0 else 0)):cW a b (l.set k (s % 4294967296)) (k+1) (s/4294967296):=by
 obtain⟨h1,h2,h3,h4,h5⟩:=h
 have g1:=ha.at hk
 have g2:0≤(if k<b.length then b.getD k 0 else 0)∧(if k<b.length then b.getD k 0 else 0)<4294967296:=by
  split
  ·rename_i g;exact hb.at g
  omega
 refine⟨by omega,by rw[Aa];exact h2,h3.set (by omega),by omega,?_⟩
 have e1:CX (b.take (k+1))=CX (b.take k)+DQ k*(if k<b.length then b.getD k 0 else 0):=by
  split
  ·rename_i g;exact F4 g
  rename_i g
  rw[Du (show b.length≤k+1 by omega),Du (show b.length≤k by omega)]
  omega
 rw[II (by omega),F4 hk,e1,F7]
 generalize (if k<b.length then b.getD k 0 else 0)=y at*
 have e2:DQ k*(s % 4294967296)+4294967296*DQ k*(s/4294967296)=DQ k*s:=by
  have:=Be s 4294967296
  rw[Ab 4294967296 (DQ k),Aw,←Al,this]
 have e3:DQ k*s=DQ k*a.getD k 0+DQ k*c+DQ k*y:=by rw[hs,Al,Al]
 omega
theorem WY{a b l:List Int}{k:Nat}{c:Int}(hab:b.length≤a.length)(h:cW a b l k c)(hk:k=a.length):Fm (l.set a.length c)∧CX (l.set a.length c)=CX a+CX b:=by
 obtain⟨h1,h2,h3,h4,h5⟩:=h
 subst hk
 refine⟨h3.set (by omega),?_⟩
 have e:=II (l:=l) (v:=c) (show a.length<l.length by omega)
 rw[Du (by rw[Aa];omega)]at e
 rw[e,h5,Du (A5 _),Du hab]
structure ia(a b l:List Int)(k:Nat)(c:Int):Prop where
 hk:k≤a.length
 hl:l.length=a.length
 hd:Fm l
 hc:0≤c∧c≤1
 hm:CX (l.take k)=CX (a.take k) -CX (b.take k)+DQ k*c
theorem kN{a b:List Int}{m:Nat}(hm:m=a.length):ia a b (List.replicate m 0) 0 0:=by
 subst hm
 exact⟨A7 _,by rw[Am],KT _,by omega,by simp[CX]⟩
def Kb(b:List Int)(k:Nat):Int:=if k<b.length then b.getD k 0 else 0
theorem j8{b:List Int}(hb:Fm b)(k:Nat):0≤Kb b k∧Kb b k<4294967296:=by
 unfold Kb
 split
 ·rename_i g;exact hb.at g
 omega
theorem dI(b:List Int)(k:Nat):CX (b.take (k+1))=CX (b.take k)+DQ k*Kb b k:=by
 unfold Kb
 split
 ·rename_i g;exact F4 g
 rename_i g
 rw[Du (show b.length≤k+1 by omega),Du (show b.length≤k by omega)]
 omega
theorem IK{a b l:List Int}{k:Nat}{c v c':Int}(ha:Fm a)(hb:Fm b)(h:ia a b l k c)(hk:k<a.length)(hc:c'=0∨c'=1)(hv:0≤v∧v<4294967296)(he:v=a.getD k 0-(c+Kb b k)+4294967296*c'):ia a b (l.set k v) (k+1) c':=by
 obtain⟨h1,h2,h3,h4,h5⟩:=h
 refine⟨by omega,by rw[Aa];exact h2,h3.set hv,by omega,?_⟩
 rw[II (by omega),F4 hk,dI,F7,h5]
 have e:DQ k*v=DQ k*a.getD k 0-(DQ k*c+DQ k*Kb b k)+4294967296*DQ k*c':=by
  rw[he,Al,Int.mul_sub,Al,Ab 4294967296 (DQ k),Aw]
 omega
theorem kM{a b l:List Int}{k:Nat}{c:Int}(ha:Fm a)(hb:Fm b)(hab:b.length≤a.length)(hle:CX b≤CX a)(h:ia a b l k c)(hk:k=a.length):Fm l∧CX l=CX a-CX b:=by
 obtain⟨h1,h2,h3,h4,h5⟩:=h
 subst hk
 rw[Du (by omega),Du (A5 _),Du hab]at h5
 have h6:=FJ h3
 rw[h2]at h6
 have h7:c=0:=by
  rcases(show c=0∨c=1 by omega)with h|h
  ·exact h
  subst h;omega
 subst h7
 exact⟨h3,by omega⟩
theorem L0{l:List Int}{j:Nat}(hj:j<l.length):CX l=CX (l.take j)+DQ j*(l.getD j 0+4294967296*CX (l.drop (j+1))):=by
 have e:l=l.take j++(l.getD j 0::l.drop (j+1)):=by
  rw[List.getD,Ag hj,Cc,←BZ hj,Bu]
 conv=>lhs;rw[e]
 rw[Gj,CX,A9,At (by omega)]
theorem Wu{a b:List Int}{j:Nat}(ha:Fm a)(hb:Fm b)(hja:j<a.length)(hjb:j<b.length)(hd:a.drop (j+1)=b.drop (j+1))(hlt:a.getD j 0<b.getD j 0):CX a<CX b:=by
 have h1:=FJ (ha.take j)
 rw[A9,At (by omega)]at h1
 have h2:=DR (hb.take j)
 rw[L0 hja,L0 hjb,hd]
 have h3:DQ j*(a.getD j 0+1+4294967296*CX (b.drop (j+1)))≤DQ j*(b.getD j 0+4294967296*CX (b.drop (j+1))):=Ac (by omega) (by have:=F9 j;omega)
 rw[show a.getD j 0+1+4294967296*CX (b.drop (j+1))=(a.getD j 0+4294967296*CX (b.drop (j+1)))+1 by omega,Al,AZ]at h3
 omega
theorem G2{a b:Nat}(h:a≤b):DQ a≤DQ b:=by
 obtain⟨d,rfl⟩: ∃ d,b=a+d:=⟨b-a,by omega⟩
 rw[K6]
 have h1:=F9 a
 have h2:=F9 d
 have:=Ac (show(1:Int)≤DQ d by omega) (show(0:Int)≤DQ a by omega)
 omega
theorem XK{l:List Int}(hd:Fm l)(ht:Vp l)(h0:0<l.length):DQ (l.length-1)≤CX l:=by
 rcases ht with ht|ht
 ·rw[ht]at h0;simp at h0
 have h1:=hd.at (k:=l.length-1) (by omega)
 have h2:=DR (hd.take (l.length-1))
 have h3:=DR (hd.drop (l.length-1+1))
 rw[L0 (l:=l) (j:=l.length-1) (by omega)]
 have h4:=F9 (l.length-1)
 have h5:=Ac (show(1:Int)≤l.getD (l.length-1) 0+4294967296*CX (l.drop (l.length-1+1)) by omega) (show(0:Int)≤DQ (l.length-1) by omega)
 omega
theorem NT{x y:Nat}(h:(CR x).length<(CR y).length):x<y:=by
 have h1:=FJ (D8 x)
 have h2:=XK (D8 y) (JW y) (by omega)
 rw[Dt]at h1 h2
 have h3:=G2 (show(CR x).length≤(CR y).length-1 by omega)
 omega
def GS(x y:Nat):Int:=if x<y then -1 else if y<x then 1 else 0
theorem uL{x y:Nat}(h:(CR x).length<(CR y).length): -1=GS x y:=by
 have:=NT h
 unfold GS;rw[if_pos this]
theorem uM{x y:Nat}(h:(CR y).length<(CR x).length):1=GS x y:=by
 have:=NT h
 unfold GS;rw[if_neg (by omega),if_pos this]
def QD(a b:List Int)(k:Nat):Prop:=k≤a.length∧a.drop k=b.drop k
theorem XN{a b:List Int}{k:Nat}(hl:a.length=b.length)(hk:k=a.length):QD a b k:=⟨by omega,by rw[BK (by omega),BK (by omega)]⟩
theorem XM{a b:List Int}{k:Nat}(hl:a.length=b.length)(h:QD a b (k+1))(h1: ¬a.getD k 0<b.getD k 0)(h2: ¬b.getD k 0<a.getD k 0):QD a b k:=by
 obtain⟨g1,g2⟩:=h
 refine⟨by omega,?_⟩
 have e: ∀ l:List Int,k<l.length→l.drop k=l.getD k 0::l.drop (k+1):=fun l hl=>by
  rw[List.getD,Ag hl,Cc,BZ hl]
 rw[e a (by omega),e b (by omega),g2,show a.getD k 0=b.getD k 0 by omega]
theorem uN{x y k:Nat}(hl:(CR x).length=(CR y).length)(h:QD (CR x) (CR y) (k+1))(h1:(CR x).getD k 0<(CR y).getD k 0): -1=GS x y:=by
 obtain⟨g1,g2⟩:=h
 have:=Wu (D8 x) (D8 y) (by omega) (by omega) g2 h1
 rw[Dt,Dt]at this
 unfold GS;rw[if_pos (by omega)]
theorem uO{x y k:Nat}(hl:(CR x).length=(CR y).length)(h:QD (CR x) (CR y) (k+1))(h1:(CR y).getD k 0<(CR x).getD k 0):1=GS x y:=by
 obtain⟨g1,g2⟩:=h
 have:=Wu (D8 y) (D8 x) (by omega) (by omega) g2.symm h1
 rw[Dt,Dt]at this
 unfold GS;rw[if_neg (by omega),if_pos (by omega)]
theorem uP{x y k:Nat}(h:QD (CR x) (CR y) k)(hk:k=0):0=GS x y:=by
 subst hk
 obtain⟨_,g2⟩:=h
 rw[B7,B7]at g2
 have e:=congrArg CX g2
 rw[Dt,Dt]at e
 unfold GS;rw[if_neg (by omega),if_neg (by omega)]
structure cU(a b l:List Int)(i:Nat):Prop where
 hi:i≤a.length
 hl:l.length=a.length+b.length
 hd:Fm l
 hm:CX (l.take (i+b.length))=CX (a.take i)*CX b
structure ic(a b l0 l:List Int)(i k:Nat)(c:Int):Prop where
 hk:k≤b.length
 hl:l.length=a.length+b.length
 hd:Fm l
 hc:0≤c∧c<4294967296
 hs: ∀ j,i+k≤j→l.getD j 0=l0.getD j 0
 hm:CX (l.take (i+k))+DQ (i+k)*c=CX (l0.take (i+k))+DQ i*(a.getD i 0*CX (b.take k))
theorem eQ{a b:List Int}{m:Nat}(hm:m=a.length+b.length):cU a b (List.replicate m 0) 0:=by
 subst hm
 refine⟨A7 _,by rw[Am],KT _,?_⟩
 rw[List.take_replicate,O1]
 simp[CX]
theorem eK{a b l:List Int}{i:Nat}(h:cU a b l i):ic a b l l i 0 0:=
 ⟨A7 _,h.hl,h.hd,by omega,fun _ _=>rfl,by simp[CX]⟩
theorem P0{x y:Int}(hx:0≤x∧x<4294967296)(hy:0≤y∧y<4294967296):0≤x*y∧x*y≤18446744065119617025:=by
 have h1:=Ae hx.1 hy.1
 have h2:x*y≤4294967295*4294967295:=Bc (by omega) (by omega) hy.1 (by omega)
 omega
theorem eJ{a b l0 l:List Int}{i k:Nat}{c t:Int}(ha:Fm a)(hb:Fm b)(h:ic a b l0 l i k c)(hi:i<a.length)(hk:k<b.length)(hl0:l0.length=a.length+b.length)(ht:t=a.getD i 0*b.getD k 0+l.getD (i+k) 0+c):ic a b l0 (l.set (i+k) (t % 4294967296)) i (k+1) (t/4294967296):=by
 obtain⟨h1,h2,h3,h4,h5,h6⟩:=h
 have g1:=ha.at hi
 have g2:=hb.at hk
 have g3:=h3.at (k:=i+k) (by omega)
 have g4:=P0 g1 g2
 refine⟨by omega,by rw[Aa];exact h2,h3.set (by omega),by omega,fun j hj=>?_,?_⟩
 ·rw[←h5 j (by omega)]
  have:i+k≠j:=by omega
  simp[List.getD,Cj,this]
 rw[show i+(k+1)=i+k+1 by omega,II (by omega),F4 (l:=l0) (by omega),F4 hk,F7,←h5 (i+k) (A5 _)]
 have e2:DQ (i+k)*(t % 4294967296)+4294967296*DQ (i+k)*(t/4294967296)=DQ (i+k)*t:=by
  have:=Be t 4294967296
  rw[Ab 4294967296 (DQ (i+k)),Aw,←Al,this]
 have e3:DQ (i+k)*t=DQ (i+k)*(a.getD i 0*b.getD k 0)+DQ (i+k)*l.getD (i+k) 0+DQ (i+k)*c:=by rw[ht,Al,Al]
 have e4:DQ i*(a.getD i 0*(CX (b.take k)+DQ k*b.getD k 0))=DQ i*(a.getD i 0*CX (b.take k))+DQ (i+k)*(a.getD i 0*b.getD k 0):=by
  rw[Al,Al,K6,BV (a.getD i 0) (DQ k),Aw (DQ i) (DQ k)]
 rw[e4]
 omega
theorem eO{a b l0 l:List Int}{i k:Nat}{c:Int}(h0:cU a b l0 i)(h:ic a b l0 l i k c)(hi:i<a.length)(hk:k=b.length):cU a b (l.set (i+b.length) c) (i+1):=by
 obtain⟨h1,h2,h3,h4,h5,h6⟩:=h
 subst hk
 refine⟨by omega,by rw[Aa];exact h2,h3.set h4,?_⟩
 rw[show i+1+b.length=i+b.length+1 by omega,II (by omega),h6,h0.hm,F4 hi,Du (A5 b.length),AJ,Aw]
theorem eM{a b l:List Int}{i:Nat}(h:cU a b l i)(hi:i=a.length):Fm l∧CX l=CX a*CX b:=by
 subst hi
 have:=h.hm
 rw[Du (by rw[h.hl];exact A5 _),Du (A5 _)]at this
 exact⟨h.hd,this⟩
section ops
variable {P:Program} {n:Nat} {ops:Array Oper} {Γ:D2} {ρ:DU} {δ:DK} {τ:List VR}
variable {d:Nat} {ty:TypeId} {pos:String} {af:Array Edge}
theorem K0{α:Type}{mk:α→SP}{xs:List α}{x hi:Operand}{T E eb:Nat}{k2:IntKind}{h:Int}(ht:Iu P T=some (E,1,eb))(hx:Lk Γ δ ρ x (I2 mk xs))(hhi:Lk Γ δ ρ hi (CW (.int k2 h)))(h1:0≤h)(h2:h≤xs.length):
  OpOK P n ops Γ ρ δ τ ⟨some d,.slice T x none (some hi) none,ty,pos,af,none⟩ .no (.c (I2 mk (xs.take h.toNat))) ET:=by
 have e1:(xs.take h.toNat).length=h.toNat:=by rw[A9];omega
 refine RH (m:=(xs.map mk).length) (m':=((xs.take h.toNat).map mk).length) (cells:=xs.map mk) (cells':=(xs.take h.toNat).map mk) ht hx hhi h1 (by rw[Az];exact h2) (by rw[Az];omega) (by rw[Bz]) fun j p hj=>?_
 rw[Dq]at hj⊢
 rw[AC,B9]at hj
 rw[AC]
 split at hj
 ·exact hj
 cases hj
end ops
theorem DD{z:Int}(h0:0≤z)(h1:z<18446744073709551616):IntKind.u64.wrap z=z:=by rw[Nt];omega
theorem Ls(z:Int):IntKind.u32.wrap z=z % 4294967296:=by simp[IntKind.wrap,IntKind.bits,IntKind.signed]
theorem I0{z:Int}(h0:0≤z)(h1:z<4294967296):IntKind.u32.wrap z=z:=by rw[Ls];omega
theorem IS(z:Int):z.fdiv (2^min (32:Int).toNat IntKind.u64.bits)=z/4294967296:=by
 show z.fdiv 4294967296=z/4294967296
 exact Bw z (by omega)
theorem j4{l:List Int}{k:Nat}{h:Int}(hk:k≤l.length)(h0:0<k)(hh:h=((l.take k).length:Int) -1):(l.take k).take h.toNat=l.take (k-1):=by
 have e:(l.take k).length=k:=by rw[A9];omega
 rw[e]at hh
 rw[List.take_take,show min h.toNat k=k-1 by omega]
theorem iY{l:List Int}{k:Nat}(hk:k≤l.length)(h0:0<k):(l.take k).getD (((l.take k).length:Int) -1).toNat 0=l.getD (k-1) 0:=by
 have e:(l.take k).length=k:=by rw[A9];omega
 rw[e]
 obtain⟨j,rfl⟩: ∃ j,k=j+1:=⟨k-1,by omega⟩
 rw[show(((j+1:Nat):Int) -1).toNat=j by omega,Jt (by omega)]
 rfl
theorem QR{l:List Int}{k:Nat}(hk:k≤l.length)(h:(CT .gtr ((l.take k).length:Int) 0&&CT .eql ((l.take k).getD (((l.take k).length:Int) -1).toNat 0) 0)=false):k=0∨l.getD (k-1) 0≠0:=by
 by_cases h0:k=0
 ·exact .inl h0
 right
 rw[iY hk (by omega)]at h
 have e:(l.take k).length=k:=by rw[A9];omega
 rw[e]at h
 intro hz
 rw[hz]at h
 simp[CT]at h
 omega
theorem SN{l:List Int}{k:Nat}(hk:k≤l.length)(h:(CT .gtr ((l.take k).length:Int) 0&&CT .eql ((l.take k).getD (((l.take k).length:Int) -1).toNat 0) 0)=true):0<k∧l.getD (k-1) 0=0:=by
 have e:(l.take k).length=k:=by rw[A9];omega
 rw[Ao]at h
 have h0:0<k:=by
  have:=h.1
  rw[e]at this
  simp[CT]at this
  omega
 refine⟨h0,?_⟩
 have:=h.2
 rw[iY hk h0]at this
 simpa[CT]using this
theorem av{l:List Int}{k:Nat}(hk:k≤l.length)(h0:0<k)(hz:l.getD (k-1) 0=0)(hm:CX (l.take k)=CX l):CX (l.take (k-1))=CX l:=by
 obtain⟨j,rfl⟩: ∃ j,k=j+1:=⟨k-1,by omega⟩
 rw[show j+1-1=j by omega]at hz⊢
 rw[j3 (by omega) hz]
 exact hm
theorem pv{a b:Int}(ha:0≤a∧a<4294967296)(hb:0≤b∧b<4294967296):Fm [a,b]:=fun z hz=>by
 rcases AH.1 hz with rfl|hz
 ·exact ha
 rw[AE.1 hz];exact hb
theorem gM{n:Nat}(hn:n<18446744073709551616):CR (CX [(n:Int) % 4294967296,(n:Int)/4294967296]).toNat=CR n:=by
 congr 1
 simp only[CX]
 omega
theorem Qi{a b:List Int}{k:Nat}{c s:Int}(ha:Fm a)(hb:Fm b)(hk:k<a.length)(hc:0≤c∧c≤1)(hs:s=a.getD k 0+c+(if k<b.length then b.getD k 0 else 0)):0≤s∧s<8589934592:=by
 have g1:=ha.at hk
 have g2:0≤(if k<b.length then b.getD k 0 else 0)∧(if k<b.length then b.getD k 0 else 0)<4294967296:=by
  split
  ·rename_i g;exact hb.at g
  omega
 omega
structure Ye(m l:List Int)(w:Nat)(p:Int)(i:Nat):Prop where
 hi:i≤m.length
 hl:l.length=w+m.length+1
 hd:Fm l
 hz: ∀ j,w+i<j→l.getD j 0=0
 hp:l.getD (w+i) 0<p
 hm:CX (l.take (w+i+1))=DQ w*(p*CX (m.take i))
theorem Wg{m:List Int}{w n:Nat}{p:Int}(hn:n=w+m.length+1)(hp:1≤p):Ye m (List.replicate n 0) w p 0:=by
 subst hn
 have e: ∀ j,(List.replicate (w+m.length+1) (0:Int)).getD j 0=0:=fun j=>by
  rw[List.getD,List.getElem?_replicate];split<;>rfl
 refine⟨A7 _,by rw[Am],KT _,fun j _=>e j,by rw[e];omega,?_⟩
 rw[List.take_replicate,O1]
 simp[CX]
theorem getD_set_ne{l:List Int}{i j:Nat}{v:Int}(h:i≠j):(l.set i v).getD j 0=l.getD j 0:=by
 simp[List.getD,Cj,h]
theorem Hu{l:List Int}{i:Nat}{v:Int}(h:i<l.length):(l.set i v).getD i 0=v:=by
 simp[List.getD,Cj,h]
theorem Mg{x p q:Int}(hx:0≤x∧x<4294967296)(hp:1≤p)(hq:1≤q)(hpq:p*q=4294967296):0≤(x*p) % 4294967296∧(x*p) % 4294967296≤4294967296-p∧0≤(x*p)/4294967296∧(x*p)/4294967296<p∧(x*p) % 4294967296=p*(x % q):=by
 have e1:(x*p) % 4294967296=p*(x % q):=by rw[←hpq,Ab x p,Int.mul_emod_mul_of_pos _ _ (by omega)]
 have e2:(x*p)/4294967296=x/q:=by rw[←hpq,Ab x p,Int.mul_ediv_mul_of_pos _ _ (by omega)]
 have h1:=Ay x (show q≠0 by omega)
 have h2:=AB x (show 0<q by omega)
 have h3:0≤p*(x % q):=Ae (by omega) h1
 have h4:p*(x % q+1)≤p*q:=Ac (by omega) (by omega)
 rw[Al,AZ]at h4
 have h5:0≤x/q:=AY hx.1 (by omega)
 have h6:x/q<p:=Bb (by omega) (by rw[hpq];exact hx.2)
 rw[e1,e2]
 omega
theorem We{m l:List Int}{w i:Nat}{p q x t:Int}(hm:Fm m)(h:Ye m l w p i)(hi:i<m.length)(hp:1≤p)(hq:1≤q)(hpq:p*q=4294967296)(hx:x=m.getD i 0)(ht:t=x*p):
  Ye m ((l.set (w+i) (l.getD (w+i) 0+t % 4294967296)).set (w+i+1) (t/4294967296)) w p (i+1):=by
 obtain⟨h1,h2,h3,h4,h5,h6⟩:=h
 have g1:=hm.at hi
 rw[←hx]at g1
 obtain⟨b1,b2,b3,b4,_⟩:=Mg g1 hp hq hpq
 rw[←ht]at b1 b2 b3 b4
 have g2:=h3.at (k:=w+i) (by omega)
 have d1:Fm (l.set (w+i) (l.getD (w+i) 0+t % 4294967296)):=h3.set (by omega)
 refine⟨by omega,by rw[Aa,Aa];exact h2,d1.set (by omega),fun j hj=>?_,?_,?_⟩
 ·rw[getD_set_ne (by omega),getD_set_ne (by omega)]
  exact h4 j (by omega)
 ·rw[show w+(i+1)=w+i+1 by omega,Hu (by rw[Aa];omega)]
  exact b4
 rw[show w+(i+1)+1=w+i+1+1 by omega,II (by rw[Aa];omega),II (by omega)]
 rw[F4 (show w+i<l.length by omega)]at h6
 have e2:DQ (w+i)*(t % 4294967296)+DQ (w+i+1)*(t/4294967296)=DQ (w+i)*t:=by
  have:=Be t 4294967296
  rw[F7,Ab 4294967296 (DQ (w+i)),Aw,←Al,this]
 have e3:DQ w*(p*CX (m.take (i+1)))=DQ w*(p*CX (m.take i))+DQ (w+i)*t:=by
  rw[F4 hi,←hx,ht,Al,Al,K6,Aw (DQ w) (DQ i),Ab x p,BV p (DQ i)]
 rw[e3,←h6,Al]
 omega
theorem Wd{m l:List Int}{w i:Nat}{p:Int}(h:Ye m l w p i)(hi:i=m.length):Fm l∧CX l=DQ w*(p*CX m):=by
 subst hi
 have:=h.hm
 rw[Du (by rw[h.hl];exact A5 _),Du (A5 _)]at this
 exact⟨h.hd,this⟩
theorem dh(a b:Nat)(ha:a<2^32)(hb:b<2^32):Ej .or .u32 a b=((a|||b:Nat):Int):=by
 have hab:a|||b<2^32:=Nat.or_lt_two_pow ha hb
 have e1:(BitVec.ofInt 32 (a:Int)).toNat=a:=by simp[BitVec.toNat_ofInt];omega
 have e2:(BitVec.ofInt 32 (b:Int)).toNat=b:=by simp[BitVec.toNat_ofInt];omega
 have e3:Ej .or .u32 a b=IntKind.u32.wrap (((BitVec.ofInt 32 (a:Int))|||(BitVec.ofInt 32 (b:Int))).toNat:Int):=rfl
 rw[e3,BitVec.toNat_or,e1,e2,Ls]
 omega
theorem vQ{L lo p y:Int}{s:Nat}(hs:p=2^s)(h0:0≤L)(h1:L<p)(hlo:lo=p*y)(hy:0≤y)(hb:L+lo<4294967296):Ej .or .u32 L lo=L+lo:=by
 obtain⟨L',rfl⟩: ∃ n:Nat,L=n:=⟨L.toNat,by omega⟩
 obtain⟨y',rfl⟩: ∃ n:Nat,y=n:=⟨y.toNat,by omega⟩
 have hp:p=((2^s:Nat):Int):=by rw[hs];simp
 have e:lo=((2^s*y':Nat):Int):=by rw[hlo,hp,Ad]
 rw[e]at hb⊢
 rw[hp]at h1
 rw[dh _ _ (by omega) (by omega),Nat.or_comm,←Nat.two_pow_add_eq_or_of_lt (by omega)]
 omega
theorem Nl{s:Nat}(hs:s<32):(1:Int)≤2^s∧(1:Int)≤2^(32-s)∧(2:Int)^s*2^(32-s)=4294967296∧(2:Int)^s≤2147483648:=by
 have: ∀ s:Nat,s<32→(1:Int)≤2^s∧(1:Int)≤2^(32-s)∧(2:Int)^s*2^(32-s)=4294967296∧(2:Int)^s≤2147483648:=by decide+kernel
 exact this s hs
theorem Qt(w s:Nat):DQ w*2^s=2^(32*w+s):=by
 unfold DQ
 rw[Int.pow_add,Int.pow_mul]
 rfl
theorem Hx{x k:Nat}(h:(x:Int)<DQ k):(CR x).length≤k:=by
 rcases BN (CR x).length with h0|h0
 ·omega
 have h1:=XK (D8 x) (JW x) h0
 rw[Dt]at h1
 by_cases hc:(CR x).length≤k
 ·exact hc
 have:=G2 (show k≤(CR x).length-1 by omega)
 omega
theorem mn(n:Nat)(h:n<18446744073709551616):IntKind.u64.wrap ((n:Int).tdiv 32)=((n/32:Nat):Int):=by
 rw[Cw (by omega),DD (by omega) (by omega)]
 omega
theorem mv(n:Nat):(n:Int).tmod 32=((n % 32:Nat):Int):=by
 rw[BY (by omega)]
 omega
theorem tO{x:Int}{s:Nat}(hx:0≤x∧x<4294967296)(hs:s<32):IntKind.u64.wrap (x*2^min ((s:Nat):Int).toNat IntKind.u64.bits)=x*2^s:=by
 obtain⟨h1,h2,h3,h4⟩:=Nl hs
 have e:min ((s:Nat):Int).toNat IntKind.u64.bits=s:=by
  show min s 64=s
  omega
 rw[e]
 have h5:=Ae hx.1 (show(0:Int)≤2^s by omega)
 have h6:x*2^s≤4294967295*2147483648:=Bc (by omega) h4 (by omega) (by omega)
 exact DD h5 (by omega)
theorem b8(n:Nat)(M:Int):DQ (n/32)*(2^(n % 32)*M)=M*2^n:=by
 rw[←Aw,Qt,show 32*(n/32)+n % 32=n by omega,Ab]
theorem jW{m l:List Int}{w i s:Nat}{x t:Int}(hs:s<32)(hm:Fm m)(h:Ye m l w (2^s) i)(hi:i<m.length)(hx:x=m.getD i 0)(ht:t=x*2^s):Ej .or .u32 (l.getD (w+i) 0) (t % 4294967296)=l.getD (w+i) 0+t % 4294967296:=by
 obtain⟨h1,h2,h3,h4⟩:=Nl hs
 have g1:=hm.at hi
 rw[←hx]at g1
 obtain⟨b1,b2,b3,b4,b5⟩:=Mg g1 h1 h2 h3
 rw[←ht]at b1 b2 b3 b4 b5
 have g2:=h.hd.at (k:=w+i) (by have:=h.hl;omega)
 have g3:=h.hp
 exact vQ rfl g2.1 g3 b5 (Ay x (by omega)) (by omega)
section ops
variable {P:Program} {n:Nat} {ops:Array Oper} {Γ:D2} {ρ:DU} {δ:DK} {τ:List VR}
variable {d:Nat} {ty:TypeId} {pos:String} {af:Array Edge}
theorem FM{α:Type}{mk:α→SP}{ys:List α}{x y:Operand}{T E eb:Nat}{zs:List Value}(ht:Iu P T=some (E,1,eb))(hz:HC P E=some zs)(hzl:Nat.beq zs.length 1=true)(hx:Lk Γ δ ρ x (CW (.slice none 0 0)))(hy:Lk Γ δ ρ y (I2 mk ys))(h63:ys.length≤9223372036854775807)(hb:ys.length*eb≤140737488355328):
  OpOK P n ops Γ ρ δ τ ⟨some d,.call ⟨.builtin .append,#[x,y],#[T,T]⟩,ty,pos,af,none⟩ .no (.c (I2 mk ys)) ET:=by
 refine qX fun a c hwf hf hr=>?_
 have hv:=(hr x _ (by simp[Op.operands,Call.operands]) hx).1
 have hyv:=hr y _ (by simp[Op.operands,Call.operands]) hy
 obtain⟨hu,i,hi,hsz,hbb⟩:=Ll ht
 unfold HC at hz
 rw[hi]at hz
 simp only[BT]at hz
 cases hzz:i.zero with
 |none=>rw[hzz]at hz;cases hz
 |some z=>
  rw[hzz]at hz
  simp only[AL,Ah]at hz
  have hzs:z.cells.size=1:=by
   have:zs.length=1:=Bj hzl
   rw[←hz]at this
   simpa using this
  have hyv':(Mv ys.length 1 (ys.map mk)).H (a.eval y) c:=by
   have:=hyv
   unfold I2 slp at this
   rw[Az]at this
   exact this
  obtain⟨nsv,ad,cc,hyx,hnl,hncell,hnone,hnCL⟩:=Ts hyv'
  have hex: ∀ v' w',(Builtin.append_ #[T,T] ty #[a.eval x,a.eval y]).run P c.w= .ok v' w'→(execOp a.eval ⟨some d,.call ⟨.builtin .append,#[x,y],#[T,T]⟩,ty,pos,af,none⟩).run P c.w= .ok (.value v') w':=fun v' w' g1=>by
   simp only[execOp,resolve,invoke,builtin,Sem.run_bind,Sem.run_pure,Result.andThen_ok,List.map_toArray,Br,List.map_nil,g1]
  by_cases hm0:ys.length=0
  ·refine⟨a.eval x,.inl ⟨hex _ _ ?_,?_⟩⟩
   ·rw[hv]
    rcases hyx with hyx|⟨hyx,_⟩<;>rw[hyx]<;>simp[Builtin.append_,run_underlying hu,sizeOf,typeInfo,hi,Builtin.lenOf,Builtin.firstCells,loadCells,loadCellsFrom,storeCells,hm0]
   have:ys=[]:=CO hm0
   subst this
   exact⟨rfl,.inl ⟨hv,rfl⟩⟩
  obtain⟨v',w',g1,g2⟩:=cg (P:=P) (ty:=ty) (E:=E) (T:=T) (m:=0) c.w hu hi hzz hsz hbb hzs (by omega) #[] 0 0 (.inl ⟨hv,rfl,rfl⟩) nsv ad cc hyx hnl hncell hnone (by omega) (by rw[Aq];exact hb)
  rcases g2 with ⟨h1,_⟩|⟨_,h1,_⟩|⟨cap',rest,h1,h2,h3,h4,h5⟩
  ·exact(hm0 h1).elim
  ·omega
  subst h4
  refine⟨v',.inr ⟨c.w.drawn+1,_,E,hex _ _ g1,fun c' hle hm' hh'=>?_⟩⟩
  rw[Aq]at h1 h2
  refine⟨by simp,.inr ⟨_,cap',by rw[h1,Az],by rw[Az];exact h2,h3,.inr ⟨_,0,rfl,hm',_,E,(0,0),hh',?_⟩⟩⟩
  have e:((#[]:Array Value).toList.take (0*1)).toArray++nsv.toArray++rest=([]++nsv++rest.toList).toArray:=by
   apply Array.ext';simp
  rw[e]
  have h0:CL [] (([]:List Value)).toArray 0 c:=fun j p hj=>by simp[nth]at hj
  exact(OG h0 hnCL rfl (by rw[hnl,Az,Bz])).st hle
theorem F6{f s:Nat}{xs xs':List Operand}{ps:List SP}{cells cells':List SP}{T':TypeId}{ats:Array TypeId}(k:Nat)(hy:DA δ ρ s=some (J6 s))(hk:nth τ k=some (Jr s cells T'))(hf: ∀ u:Value,En P f (DW u 0::ps) (Dh u cells T') (DW u 0) (Dh u cells' T'))(hxs:xs= .tmp s::xs')(hx:Sf Γ δ ρ xs' ps):
  OpOK P n ops Γ ρ δ τ ⟨some d,.call ⟨.value (.func f),xs.toArray,ats⟩,ty,pos,af,none⟩ (.wr k) (J6 d) (Jr d cells' T'):=by
 intro a c ob hs hwf hfa hr hres hno hown
 obtain⟨r0,hr0,hh⟩:=hres k rfl
 rw[hk]at hr0
 cases hr0
 have hh':(Dh (vl a s) cells T').H c ob:=hh
 have hp:(DW (vl a s) 0).H (a.eval (.tmp s)) c:=hr s (B3 _ (BM.2 ⟨.tmp s,by simp[Op.operands,Call.operands,hxs],rfl⟩)) _ hy
 have hv0:=hx.val (a:=a) (c:=c) fun x q hx' hq=>Lk.val (o:=⟨some d,.call ⟨.value (.func f),xs.toArray,ats⟩,ty,pos,af,none⟩) hr hfa (by simp[Op.operands,Call.operands,hxs,hx']) hq
 have hv:HL (DW (vl a s) 0::ps) (xs.map a.eval) c:=by rw[hxs];exact⟨hp,hv0⟩
 simp only[Region.wanted,if_true]
 unfold GP
 have hex:(execOp a.eval ⟨some d,.call ⟨.value (.func f),xs.toArray,ats⟩,ty,pos,af,none⟩).run P c.w= .ok (.enter f (xs.map a.eval).toArray) c.w:=by
  have h1:=EF (hf (vl a s)).1 (xs.map a.eval).toArray c.w
  simp[execOp,resolve,Deferred.ofValue,Act.eval,invoke,h1]
 rw[hex]
 refine((hf (vl a s)).2 _ c ob hwf ⟨hfa.2,hv⟩ hh' fun b hb=>(hown b hb).1).mono fun e w' ⟨v,he,hxm,hR,hr'⟩=>⟨v,he,⟨w',c.M⟩,ob,rfl,?_,?_,fun _=>?_⟩
 ·exact⟨hxm.os,hxm.tape,hxm.out,hxm.size,fun j hj hne=>hxm.heap j hj (hne rfl),fun _ _=>⟨id,.inl⟩,.inl rfl,fun j hj=>B4 (hwf j hj) hxm.size⟩
 ·obtain⟨b,cur,g1,g2,_⟩:=hr'
  obtain⟨b',g3,g4⟩:=hR
  rw[g1]at g3
  have hvb:v= .pointer (some ⟨b,0,none⟩):=by
   rcases g3 with g3|⟨_,_,g3⟩
   ·cases g3;exact g4
   cases g3
  simp only[J6,VE.at,FK]
  exact⟨b,.inl hvb,hvb⟩
 have hr2:=hr'
 obtain⟨b,cur,g1,g2,_⟩:=hr'
 obtain⟨b',g3,g4⟩:=hR
 rw[g1]at g3
 have hvb:v=vl a s:=by
  rw[g1]
  rcases g3 with g3|⟨_,_,g3⟩
  ·cases g3;exact g4
  cases g3
 simp only[Jr,VR.at,FK]
 rw[hvb]
 exact hr2
theorem bI{x y:Operand}{t t':TypeId}{a b:Bool}(hT:P.underlying t=some .bool)(hx:Lk Γ δ ρ x (CW (.bool a)))(hy:Lk Γ δ ρ y (CW (.bool b))):
  OpOK P n ops Γ ρ δ τ ⟨some d,.binOp .eql t x y t',ty,pos,af,none⟩ .no (.c (CW (.bool (a==b)))) ET:=
 DE fun A c _ hr=>by
  have h1:=(hr x _ (by simp[Op.operands]) hx).1
  have h2:=(hr y _ (by simp[Op.operands]) hy).1
  refine⟨.bool (a==b),?_,rfl,rfl⟩
  have hrun:=run_eql_bool (P:=P) c.w t a b hT
  simp[execOp,eqGuard,h1,h2,hrun]
theorem bL{x:Operand}{base:Value}{off:Nat}(hx:Lk Γ δ ρ x (DW base off)):OpOK P n ops Γ ρ δ τ ⟨some d,.nilCheck x,ty,pos,af,none⟩ .no (.c (DW base off)) ET:=
 DE fun a c _ hr=>by
  have hv:=hr x _ (by simp[Op.operands]) hx
  obtain⟨b,_,h2⟩:=hv
  exact⟨a.eval x,by simp[execOp,h2],hr x _ (by simp[Op.operands]) hx⟩
theorem xD{tx0:Nat}{base:Value}{off:Nat}(hx:DA δ ρ tx0=some (.c (DW base off))):OpOK P n ops Γ ρ δ τ ⟨some d,.nilCheck (Operand.tmp tx0),ty,pos,af,none⟩ .no (.c (DW base off)) ET:=by
 exact bL (.t hx)
theorem r9{x:Operand}{cells:List SP}(hx:Lk Γ δ ρ x (Gf cells)):OpOK P n ops Γ ρ δ τ ⟨some d,.nilCheck x,ty,pos,af,none⟩ .no (.c (Gf cells)) ET:=
 DE fun a c _ hr=>by
  have hv:=hr x _ (by simp[Op.operands]) hx
  obtain⟨b,off,cur,T,fz,h2,_⟩:=hv
  exact⟨a.eval x,by simp[execOp,h2],hr x _ (by simp[Op.operands]) hx⟩
theorem xE{tx0:Nat}{cells:List SP}(hx:DA δ ρ tx0=some (.c (Gf cells))):OpOK P n ops Γ ρ δ τ ⟨some d,.nilCheck (Operand.tmp tx0),ty,pos,af,none⟩ .no (.c (Gf cells)) ET:=by
 exact r9 (.t hx)
end ops
abbrev Ks(z:Int):List SP:=[CW (.bool (decide (z<0))),DP .u32 (CR z.natAbs)]
abbrev MB(z:Int):SP:=Gf (Ks z)
def Ds(b:Bool)(M:Nat):Int:=if b then -(M:Int)else(M:Int)
theorem KH(b:Bool)(M:Nat):(Ds b M).natAbs=M:=by unfold Ds;split<;>omega
theorem Jc(n:Nat):(CX (CR n)).toNat=n:=by rw[Dt];omega
theorem P8(b:Bool)(M:Nat):[CW (.bool (b&&CT .gtr (((CR M).length:Nat):Int) 0)),DP .u32 (CR M)]=Ks (Ds b M):=by
 have e:(b&&CT .gtr (((CR M).length:Nat):Int) 0)=decide (Ds b M<0):=by
  have h:=Fo (n:=M)
  unfold Ds
  by_cases h0:M=0
  ·subst h0
   rw[h.2 rfl]
   cases b<;>decide
  have h1:(CR M).length≠0:=fun e=>h0 (h.1 e)
  cases b
  ·simp
  simp[CT];omega
 rw[e]
 show _=[_,DP .u32 (CR (Ds b M).natAbs)]
 rw[KH]
structure Kk(x:Int):Prop where
 h:((x.natAbs:Nat):Int)<DQ 1000000000
theorem Ov{x:Int}(h:Kk x):(CR x.natAbs).length≤250000000000:=Ak (Hx h.h) (by omega)
theorem a0n{x y:Int}{t:Bool}(h:(decide (x<0)==(decide (y<0) !=t))=true):Ds (decide (y<0) !=t) (x.natAbs+y.natAbs)=x+Ds t 1*y:=by
 unfold Ds
 by_cases hx:x<0<;>by_cases hy:y<0<;>cases t<;>simp[hx,hy]at h⊢ <;>omega
theorem a0o{x y:Int}{t:Bool}(h:(decide (x<0)==(decide (y<0) !=t))=false)(hle:y.natAbs≤x.natAbs):Ds (decide (x<0)) (x.natAbs-y.natAbs)=x+Ds t 1*y:=by
 unfold Ds
 by_cases hx:x<0<;>by_cases hy:y<0<;>cases t<;>simp[hx,hy]at h⊢ <;>omega
theorem a0p{x y:Int}{t:Bool}(h:(decide (x<0)==(decide (y<0) !=t))=false)(hle:x.natAbs≤y.natAbs):Ds (decide (y<0) !=t) (y.natAbs-x.natAbs)=x+Ds t 1*y:=by
 unfold Ds
 by_cases hx:x<0<;>by_cases hy:y<0<;>cases t<;>simp[hx,hy]at h⊢ <;>omega
theorem tu{x:Int}:Ds (!decide (x<0)) x.natAbs= -x:=by
 unfold Ds
 by_cases hx:x<0<;>simp[hx]<;>omega
theorem z9{x y:Int}:Ds (decide (x<0) !=decide (y<0)) (x.natAbs*y.natAbs)=x*y:=by
 have e:((x.natAbs*y.natAbs:Nat):Int)=(x.natAbs:Int)*(y.natAbs:Int):=Ad ..
 unfold Ds
 by_cases hx:x<0<;>by_cases hy:y<0<;>simp[hx,hy]
 ·rw[show(x.natAbs:Int)= -x by omega,show(y.natAbs:Int)= -y by omega,Int.neg_mul_neg]
 ·rw[show(x.natAbs:Int)= -x by omega,show(y.natAbs:Int)=y by omega,Int.neg_mul,Int.neg_neg]
 ·rw[show(x.natAbs:Int)=x by omega,show(y.natAbs:Int)= -y by omega,Int.mul_neg,Int.neg_neg]
 rw[show(x.natAbs:Int)=x by omega,show(y.natAbs:Int)=y by omega]
theorem tP{x:Int}{n:Nat}:Ds (decide (x<0)) (x.natAbs*2^n)=x*2^n:=by
 have e:((x.natAbs*2^n:Nat):Int)=(x.natAbs:Int)*2^n:=by rw[Ad];simp
 unfold Ds
 by_cases hx:x<0<;>simp[hx]
 ·rw[show(x.natAbs:Int)= -x by omega,Int.neg_mul,Int.neg_neg]
 rw[show(x.natAbs:Int)=x by omega]
def HT(z:Int):Int:=if z<0 then -1 else if z=0 then 0 else 1
theorem qE(x y:Nat):(CX (CR x)+CX (CR y)).toNat=x+y:=by rw[Dt,Dt];omega
theorem bo{x y:Nat}(h:y≤x):(CX (CR x) -CX (CR y)).toNat=x-y:=by rw[Dt,Dt];omega
theorem qF(x y:Nat):(CX (CR x)*CX (CR y)).toNat=x*y:=by rw[Dt,Dt,←Ad];omega
theorem qG(x n:Nat):(CX (CR x)*2^n).toNat=x*2^n:=by
 rw[Dt]
 have e:(x:Int)*2^n=((x*2^n:Nat):Int):=by rw[Ad];simp
 rw[e];omega
theorem aq{x y:Nat}(h:0≤GS x y):y≤x:=by
 unfold GS at h
 split at h
 ·omega
 split at h<;>omega
theorem ao{x y:Nat}(h: ¬0≤GS x y):x≤y:=by
 unfold GS at h
 split at h
 ·omega
 split at h<;>omega
theorem k9{x y:Nat}(h:y≤x):(CR y).length≤(CR x).length:=by
 by_cases hc:(CR y).length≤(CR x).length
 ·exact hc
 have:=NT (x:=x) (y:=y) (by omega);omega
theorem kE{x y:Nat}(h:y≤x):CX (CR y)≤CX (CR x):=by rw[Dt,Dt];omega
structure Nz where
 m:Int
 e:Int
abbrev pD(x:Nz):SP:=DL [MB x.m,I6 x.e]
def Nz.neg(x:Nz):Nz:=⟨-x.m,x.e⟩
def Nz.mul(x y:Nz):Nz:=⟨x.m*y.m,x.e+y.e⟩
def Nz.low(x:Nz)(e:Int):Nz:=if x.e≤e then x else⟨x.m*2^(x.e-e).toNat,e⟩
def Nz.add(x y:Nz):Nz:=if x.m=0 then y else if y.m=0 then x else⟨(x.low (min x.e y.e)).m+(y.low (min x.e y.e)).m,min x.e y.e⟩
def Nz.zero:Nz:=⟨0,0⟩
structure Exb(x:Nz):Prop where
 h:Kk x.m
 e0: -1000000≤x.e
 e1:x.e≤1000000
theorem Zr{z:Int}:HT z=0↔z=0:=by
 unfold HT
 constructor
 ·intro h
  split at h
  ·omega
  split at h<;>omega
 rintro rfl;rfl
def tz(m:Nat):Nat:=if h:m=0 then 0 else if m % 2=0 then tz (m/2)+1 else 0
termination_by m
decreasing_by exact BE (by omega) (by omega)
theorem o5{m:Nat}(h: ¬m % 2=0):tz m=0:=by rw[tz];simp[h]
theorem cO{m:Nat}(h0:m≠0)(h:m % 2=0):tz m=tz (m/2)+1:=by rw[tz];simp[h0,h]
structure cV(m k:Nat):Prop where
 h0:m≠0
 ht:tz m=k+tz (m/2^k)
 hm:m/2^k*2^k=m
theorem lh{m:Nat}(h:m≠0):cV m 0:=⟨h,by simp,by simp⟩
theorem lf{m k:Nat}(h:cV m k)(he:(m/2^k) % 2=0):cV m (k+1):=by
 obtain⟨h0,ht,hm⟩:=h
 have hn:m/2^k≠0:=by
  intro e
  rw[e]at hm
  omega
 have e1:m/2^(k+1)=m/2^k/2:=by rw[Ca,Nat.div_div_eq_div_mul]
 refine⟨h0,?_,?_⟩
 ·rw[e1,ht,cO hn he];omega
 rw[e1,Ca,AP (2^k) 2,←Nat.mul_assoc,show m/2^k/2*2=m/2^k by omega,hm]
theorem vM{m k:Nat}(h:cV m k)(hm:m<18446744073709551616):k<64:=by
 have h1:m/2^k≠0:=by
  intro e
  have:=h.hm
  rw[e]at this
  have:=h.h0
  omega
 have h2:2^k≤m:=by
  have h3:=Au (2^k) (AS h1)
  rw[h.hm]at h3
  omega
 by_cases hk:k<64
 ·exact hk
 have:2^64≤2^k:=Nat.pow_le_pow_right (by omega) (by omega)
 omega
theorem l9{m k:Nat}(h:cV m k)(ho: ¬(m/2^k) % 2=0):k=tz m:=by rw[h.ht,o5 ho];rfl
def Kx(m:Nat):Nat:=if m=0 then 0 else m/2^tz m
def IM(m:Nat)(e:Int):Int:=if m=0 then 0 else e+tz m
theorem n7(n:Nat):Ds (CT .lss (n:Int) 0) n=n:=by
 unfold Ds
 rw[if_neg (by simp[CT])]
theorem tX(d:Nat):((d:Nat):Int).tmod 2=0↔d % 2=0:=by
 rw[BY (by omega)]
 omega
theorem a1s{d:Nat}(h:d<18446744073709551616):IntKind.u64.wrap (((d:Nat):Int).tdiv 2)=((d/2:Nat):Int):=by
 rw[Cw (by omega),DD (by omega) (by omega)]
 omega
theorem uW{m k:Nat}(h:m<18446744073709551616):m/2^k<18446744073709551616:=C8 (Co _ _) h
theorem tn{x:Nat}(h:FI x=0):Iw x=He x∧JK x= -1074:=by
 have hr:G7 x/4503599627370496=0:=by rw[←SS];exact h
 unfold Iw JK He
 rw[if_pos (by omega),if_pos (by omega)]
 unfold G7 at*
 omega
theorem kL{x:Nat}(h:0<FI x):Iw x=He x+4503599627370496∧JK x=(FI x:Int) -1-1074:=by
 have hr:G7 x/4503599627370496=FI x:=(SS x).symm
 unfold Iw JK He
 rw[if_neg (by omega),if_neg (by omega),hr]
 have e:G7 x % 4503599627370496=x % 4503599627370496:=by unfold G7;omega
 rw[e]
 omega
theorem qM{x:Nat}(h:0<FI x):IntKind.u64.wrap (((He x:Nat):Int)+4503599627370496)=((Iw x:Nat):Int):=by
 have h1:=(kL h).1
 have h2:=Nc x
 rw[DD (by omega) (by omega)]
 omega
theorem rZ{x:Nat}(hx:x<2^64):CT .eql (((x/2^63:Nat)):Int) 1=On x:=by
 unfold On CT
 have h1:x/9223372036854775808<2:=by omega
 rw[show(2:Nat)^63=9223372036854775808 by decide]
 generalize x/9223372036854775808=d at*
 have:d=0∨d=1:=by omega
 rcases this with rfl|rfl<;>rfl
theorem bG(m:Nat):Kx m≤m:=by
 unfold Kx
 split
 ·omega
 exact Co _ _
def P1(x:Nat):Nz:=⟨if On x=true then -((Kx (Iw x):Nat):Int)else((Kx (Iw x):Nat):Int),IM (Iw x) (JK x)⟩
theorem Zv{z:Int}(h:z.natAbs<18446744073709551616):Kk z:=⟨by
 have h1:DQ 2=18446744073709551616:=by decide+kernel
 have h2:=G2 (show 2≤1000000000 by omega)
 omega⟩
theorem P2(x:Nat):(P1 x).m.natAbs<9007199254740992:=by
 have h1:=bG (Iw x)
 have h2:=Nc x
 unfold P1
 show(if On x=true then -((Kx (Iw x):Nat):Int)else((Kx (Iw x):Nat):Int)).natAbs<9007199254740992
 split<;>omega
theorem wL: ∀ m:Nat,m≠0→2^tz m≤m:=by
 intro m
 induction m using Nat.strongRecOn with
 |_ m ih=>
  intro h0
  by_cases h:m % 2=0
  ·rw[cO h0 h,Ca]
   have:=ih (m/2) (BE (by omega) (by omega)) (by omega)
   omega
  rw[o5 h]
  simp
  omega
theorem o4{m:Nat}(h0:m≠0)(h:m<18446744073709551616):tz m<64:=by
 have h1:=wL m h0
 by_cases hk:tz m<64
 ·exact hk
 have:2^64≤2^tz m:=Nat.pow_le_pow_right (by omega) (by omega)
 omega
theorem lj{x:Nat}(hf:DF x=true)(hx:x<2^64): -1074≤(P1 x).e∧(P1 x).e≤1034:=by
 have hr:=(Ko hx).1 hf
 have h1:=Uy x
 have h2:=lV hr
 have h3:=Nc x
 show -1074≤IM (Iw x) (JK x)∧IM (Iw x) (JK x)≤1034
 unfold IM
 split
 ·omega
 rename_i h0
 have:=o4 h0 (by omega)
 omega
theorem qV{x:Nat}(hf:DF x=true)(hx:x<2^64):Exb (P1 x):=by
 obtain⟨a1,a2⟩:=lj hf hx
 have c1:=P2 x
 exact⟨Zv (by omega),by omega,by omega⟩
theorem mu{x:Nat}(h: ¬G7 x<9218868437227405312):(∃ s,Ieee.double.read x= .infinity s)∨(Ieee.double.read x).isNaN=true:=by
 by_cases he:G7 x=9218868437227405312
 ·exact .inl ⟨_,Xc he⟩
 right
 unfold Ieee.Format.read
 unfold G7 at h he
 simp only[RZ,dg,W5]
 rw[if_neg (by omega),if_neg h,if_neg he]
 rfl
theorem YI{x:Nat}(hx:x<2^64)(h:(Gp .gtr (Kc x) Vi||Gp .neq x x)=false):DF x=true:=by
 rw[AQ]at h
 cases hn:FN x
 ·by_cases hr:G7 x<9218868437227405312
  ·exact(Ko hx).2 hr
  exfalso
  have he:G7 x=9218868437227405312:=by
   by_cases he:G7 x=9218868437227405312
   ·exact he
   exfalso
   unfold FN at hn
   rcases mu hr with ⟨s,h⟩|h
   ·unfold Ieee.Format.read at h
    unfold G7 at hr he
    simp only[RZ,dg,W5]at h
    rw[if_neg (by omega),if_neg hr,if_neg he]at h
    cases h
   rw[h]at hn;cases hn
  have e:Kc x=9218868437227405312:=by
   unfold Kc
   rw[hn]
   exact he
  rw[e]at h
  exact absurd h.1 (by decide+kernel)
 exfalso
 have:Gp .neq x x=true:=by
  unfold Gp
  rw[Ra (.inl hn)]
  rfl
 rw[this]at h
 cases h.2
theorem Z9(b c i:Nat)(hc:c<2^i):b*2^i|||c=b*2^i+c:=by
 rw[←Nat.shiftLeft_eq,Nat.shiftLeft_add_eq_or_of_lt hc]
def a1X(x:Nat):Bool:=Gp .eql (MA x x) 0
theorem aM(x:Nat):He x<4503599627370496:=Ap _ (by decide)
theorem To.two{X:Cx}{Γ:D2}{ρ:DU}{σ σ':List Res}(k j:Nat){a b a' b':Res}(hk:nth σ k=some a)(hj:nth σ j=some b)(hne:Nat.beq k j=false)
  (h: ∀ c o1 o2,a.H c o1→b.H c o2→(∀ x,o1 x→o2 x→False)→ ∃ p1 p2:Bs,a'.H c p1∧b'.H c p2∧(∀ x,p1 x→o1 x∨o2 x)∧(∀ x,p2 x→o1 x∨o2 x)∧(∀ x,p1 x→p2 x→False))
  (hσ:EK (EK σ k a') j b'=σ'):To X Γ ρ σ Γ ρ σ':=by
 subst hσ
 have hne':k≠j:=Nat.ne_of_beq_eq_false hne
 intro A c hs
 obtain⟨obs,hown,hres⟩:=hs.own
 obtain⟨p1,p2,h1,h2,h3,h4,h5⟩:=h c (obs k) (obs j) (hres k a hk) (hres j b hj) fun x hx hy=>hne' (hown.one k j x hx hy)
 refine⟨c,rfl,hs.size,hs.defers,hs.facts,hs.env,fun i=>if i=k then p1 else if i=j then p2 else obs i,?_,fun i r hr=>?_⟩
 ·have sub: ∀ i x,(if i=k then p1 else if i=j then p2 else obs i) x→(i=k∧p1 x)∨(i≠k∧i=j∧p2 x)∨(i≠k∧i≠j∧obs i x):=fun i x hx=>by
   by_cases e:i=k
   ·rw[if_pos e]at hx;exact .inl ⟨e,hx⟩
   rw[if_neg e]at hx
   by_cases e2:i=j
   ·rw[if_pos e2]at hx;exact .inr (.inl ⟨e,e2,hx⟩)
   rw[if_neg e2]at hx;exact .inr (.inr ⟨e,e2,hx⟩)
  have old: ∀ x,p1 x∨p2 x→obs k x∨obs j x:=fun x hx=>hx.elim (h3 x) (h4 x)
  exact{hown with
   has:=fun i x hx=>by
    rcases sub i x hx with ⟨_,q⟩|⟨_,_,q⟩|⟨_,_,q⟩
    ·exact(h3 x q).elim (hown.has k x) (hown.has j x)
    ·exact(h4 x q).elim (hown.has k x) (hown.has j x)
    exact hown.has i x q
   one:=fun i i' x hx hy=>by
    rcases sub i x hx with ⟨e,q⟩|⟨e0,e,q⟩|⟨e0,e,q⟩<;>rcases sub i' x hy with ⟨f,s⟩|⟨f0,f,s⟩|⟨f0,f,s⟩
    ·rw[e,f]
    ·exact(h5 x q s).elim
    ·rcases old x (.inl q)with o|o
     ·exact(f0 (hown.one i' k x s o)).elim
     exact(f (hown.one i' j x s o)).elim
    ·exact(h5 x s q).elim
    ·rw[e,f]
    ·rcases old x (.inr q)with o|o
     ·exact(f0 (hown.one i' k x s o)).elim
     exact(f (hown.one i' j x s o)).elim
    ·rcases old x (.inl s)with o|o
     ·exact(e0 (hown.one i k x q o)).elim
     exact(e (hown.one i j x q o)).elim
    ·rcases old x (.inr s)with o|o
     ·exact(e0 (hown.one i k x q o)).elim
     exact(e (hown.one i j x q o)).elim
    exact hown.one i i' x q s}
 rw[G3,G3]at hr
 by_cases e:i=k
 ·simp only[if_pos e]
  rw[if_neg (by rw[e];exact hne'),if_pos e,e,hk]at hr
  cases hr
  exact h1
 simp only[if_neg e]
 by_cases e2:i=j
 ·simp only[if_pos e2]
  rw[if_pos e2,e2,if_neg (Ne.symm hne'),hj]at hr
  cases hr
  exact h2
 simp only[if_neg e2]
 rw[if_neg e2,if_neg e]at hr
 exact hres i r hr
def Res.sep(r1 r2:Res):Res:=⟨fun c ob=> ∃ o1 o2:Bs,(∀ b,ob b↔o1 b∨o2 b)∧(∀ b,o1 b→o2 b→False)∧r1.H c o1∧r2.H c o2,by
 rintro c c' ob hle hk ⟨o1,o2,h1,h2,h3,h4⟩
 exact⟨o1,o2,h1,h2,r1.fr _ _ _ hle (fun b hb=>hk b ((h1 b).2 (.inl hb))) h3,r2.fr _ _ _ hle (fun b hb=>hk b ((h1 b).2 (.inr hb))) h4⟩⟩
theorem To.split{X:Cx}{Γ:D2}{ρ:DU}{σ σ':List Res}(k j:Nat){r1 r2:Res}(hk:nth σ k=some (r1.sep r2))(hj:nth σ j=some Go.Bn.emp)(hne:Nat.beq k j=false)(hσ:EK (EK σ k r1) j r2=σ'):To X Γ ρ σ Γ ρ σ':=
 To.two k j hk hj hne (fun c p q hp hq _=>by
  obtain⟨o1,o2,h1,h2,h3,h4⟩:=hp
  exact⟨o1,o2,h3,h4,fun x hx=> .inl ((h1 x).2 (.inl hx)),fun x hx=> .inl ((h1 x).2 (.inr hx)),h2⟩) hσ
theorem To.join{X:Cx}{Γ:D2}{ρ:DU}{σ σ':List Res}(k j:Nat){r1 r2:Res}(hk:nth σ k=some r1)(hj:nth σ j=some r2)(hne:Nat.beq k j=false)(hσ:EK (EK σ k (r1.sep r2)) j Go.Bn.emp=σ'):To X Γ ρ σ Γ ρ σ':=
 To.two (a':=r1.sep r2) (b':=Go.Bn.emp) k j hk hj hne (fun c p q hp hq hd=>⟨fun b=>p b∨q b,Ix,⟨p,q,fun _=>Iff.rfl,hd,hp,hq⟩,rfl,fun x hx=>hx,fun x hx=>(by cases hx),fun x _ hx=>(by cases hx)⟩) hσ
def exR{α:Type}(f:α→Res):Res:=⟨fun c ob=> ∃ x,(f x).H c ob,fun c c' ob hle hk ⟨x,hx⟩=>⟨x,(f x).fr _ _ _ hle hk hx⟩⟩
theorem xK{X:Cx}{Γ:D2}{ρ:DU}{σ:List Res}{code:Code}{Q:Exit→Act→World→Prop}{α:Type}{f:α→Res}(k:Nat)(hk:nth σ k=some (exR f))(h: ∀ x,J X Γ ρ (EK σ k (f x)) code Q):J X Γ ρ σ code Q:=fun a c hs=>by
 obtain⟨obs,hown,hres⟩:=hs.own
 obtain⟨x,hx⟩:=hres k _ hk
 refine h x a c ⟨hs.size,hs.defers,hs.facts,hs.env,obs,hown,fun j r hj=>?_⟩
 rw[G3]at hj
 by_cases hjk:j=k
 ·rw[if_pos hjk]at hj
  subst hjk
  rw[hk]at hj
  cases hj
  exact hx
 rw[if_neg hjk]at hj
 exact hres j r hj
theorem Qy{X:Cx}{Γ:D2}{ρ:DU}{σ:List Res}{code:Code}{Q:Exit→Act→World→Prop}{r:Res}{R:Prop}(k:Nat)(hk:nth σ k=some r)(hr: ∀ c ob,r.H c ob→R)(h:R→J X Γ ρ σ code Q):J X Γ ρ σ code Q:=fun a c hs=>by
 obtain⟨obs,hown,hres⟩:=hs.own
 exact h (hr _ _ (hres k _ hk)) a c hs
def FE(n:Nat)(f:Nat→Res):Res:=⟨fun c ob=> ∃ os:Nat→Bs,(∀ b,ob b↔ ∃ i,i<n∧os i b)∧(∀ i j b,i<n→j<n→os i b→os j b→i=j)∧ ∀ i,i<n→(f i).H c (os i),by
 rintro c c' ob hle hk ⟨os,h1,h2,h3⟩
 exact⟨os,h1,h2,fun i hi=>(f i).fr _ _ _ hle (fun b hb=>hk b ((h1 b).2 ⟨i,hi,hb⟩)) (h3 i hi)⟩⟩
theorem lY{f:Nat→Res}: ∀ c ob,Go.Bn.emp.H c ob→(FE 0 f).H c ob:=fun c ob h=>by
 have h:ob=Ix:=h
 subst h
 exact⟨fun _=>Ix,fun b=>⟨fun hb=>(by cases hb),fun⟨i,hi,_⟩=>absurd hi (Bl i)⟩,fun i j b hi=>absurd hi (Bl i),fun i hi=>absurd hi (Bl i)⟩
theorem Jx{n:Nat}{f g:Nat→Res}(h: ∀ i,i<n→f i=g i): ∀ c ob,(FE n f).H c ob→(FE n g).H c ob:=fun c ob ⟨os,h1,h2,h3⟩=>⟨os,h1,h2,fun i hi=>h i hi▸h3 i hi⟩
def Kr(f:Nat→Res)(i:Nat):Nat→Res:=fun q=>if q=i then Go.Bn.emp else f q
def LD(f:Nat→Res)(i:Nat)(r:Res):Nat→Res:=fun q=>if q=i then r else f q
theorem To.focus{X:Cx}{Γ:D2}{ρ:DU}{σ σ':List Res}(k j i:Nat){n:Nat}{f:Nat→Res}(hi:i<n)(hk:nth σ k=some (FE n f))(hj:nth σ j=some Go.Bn.emp)(hne:Nat.beq k j=false)(hσ:EK (EK σ k (FE n (Kr f i))) j (f i)=σ'):To X Γ ρ σ Γ ρ σ':=
 To.two k j hk hj hne (fun c p q hp hq _=>by
  obtain⟨os,h1,h2,h3⟩:=hp
  refine⟨fun b=> ∃ m,m<n∧m≠i∧os m b,os i,⟨fun m=>if m=i then Ix else os m,fun b=>⟨fun⟨m,g1,g2,g3⟩=>⟨m,g1,by simp only[if_neg g2];exact g3⟩,fun⟨m,g1,g2⟩=>?_⟩,fun a b x ha hb hx hy=>?_,fun m hm=>?_⟩,h3 i hi,fun x ⟨m,g1,_,g3⟩=> .inl ((h1 x).2 ⟨m,g1,g3⟩),fun x hx=> .inl ((h1 x).2 ⟨i,hi,hx⟩),fun x ⟨m,g1,g2,g3⟩ hx=>g2 (h2 m i x g1 hi g3 hx)⟩
  ·by_cases e:m=i
   ·simp only[if_pos e]at g2;cases g2
   simp only[if_neg e]at g2;exact⟨m,g1,e,g2⟩
  ·by_cases e:a=i
   ·simp only[if_pos e]at hx;cases hx
   by_cases e2:b=i
   ·simp only[if_pos e2]at hy;cases hy
   simp only[if_neg e]at hx;simp only[if_neg e2]at hy
   exact h2 a b x ha hb hx hy
  unfold Kr
  by_cases e:m=i
  ·simp only[if_pos e];rfl
  simp only[if_neg e];exact h3 m hm) hσ
theorem To.unfocus{X:Cx}{Γ:D2}{ρ:DU}{σ σ':List Res}(k j i:Nat){n:Nat}{f:Nat→Res}{r:Res}(hi:i<n)(hk:nth σ k=some (FE n (Kr f i)))(hj:nth σ j=some r)(hne:Nat.beq k j=false)(hσ:EK (EK σ k (FE n (LD f i r))) j Go.Bn.emp=σ'):To X Γ ρ σ Γ ρ σ':=
 To.two k j hk hj hne (fun c p q hp hq hd=>by
  obtain⟨os,h1,h2,h3⟩:=hp
  have hoi: ∀ b,¬os i b:=fun b hb=>by
   have:=h3 i hi
   unfold Kr at this
   rw[if_pos rfl]at this
   have this:os i=Ix:=this
   rw[this]at hb;cases hb
  refine⟨fun b=>p b∨q b,Ix,⟨fun m=>if m=i then q else os m,fun b=>⟨fun hb=>?_,fun⟨m,g1,g2⟩=>?_⟩,fun a b x ha hb hx hy=>?_,fun m hm=>?_⟩,rfl,fun x hx=>hx,fun x hx=>(by cases hx),fun x _ hx=>(by cases hx)⟩
  ·rcases hb with hb|hb
   ·obtain⟨m,g1,g2⟩:=(h1 b).1 hb
    refine⟨m,g1,?_⟩
    by_cases e:m=i
    ·rw[e]at g2;exact(hoi b g2).elim
    simp only[if_neg e];exact g2
   exact⟨i,hi,by simp only[if_true];exact hb⟩
  ·by_cases e:m=i
   ·simp only[if_pos e]at g2;exact .inr g2
   simp only[if_neg e]at g2;exact .inl ((h1 b).2 ⟨m,g1,g2⟩)
  ·by_cases e:a=i
   ·by_cases e2:b=i
    ·rw[e,e2]
    simp only[if_pos e]at hx;simp only[if_neg e2]at hy
    exact(hd x ((h1 x).2 ⟨b,hb,hy⟩) hx).elim
   by_cases e2:b=i
   ·simp only[if_neg e]at hx;simp only[if_pos e2]at hy
    exact(hd x ((h1 x).2 ⟨a,ha,hx⟩) hy).elim
   simp only[if_neg e]at hx;simp only[if_neg e2]at hy
   exact h2 a b x ha hb hx hy
  unfold LD
  by_cases e:m=i
  ·simp only[if_pos e];exact hq
  have:=h3 m hm
  unfold Kr at this
  rw[if_neg e]at this
  simp only[if_neg e];exact this) hσ
theorem To.push{X:Cx}{Γ:D2}{ρ:DU}{σ σ':List Res}(k j:Nat){n:Nat}{f:Nat→Res}{r:Res}(hk:nth σ k=some (FE n f))(hj:nth σ j=some r)(hne:Nat.beq k j=false)(hσ:EK (EK σ k (FE (n+1) (LD f n r))) j Go.Bn.emp=σ'):To X Γ ρ σ Γ ρ σ':=
 To.two k j hk hj hne (fun c p q hp hq hd=>by
  obtain⟨os,h1,h2,h3⟩:=hp
  refine⟨fun b=>p b∨q b,Ix,⟨fun m=>if m=n then q else os m,fun b=>⟨fun hb=>?_,fun⟨m,g1,g2⟩=>?_⟩,fun a b x ha hb hx hy=>?_,fun m hm=>?_⟩,rfl,fun x hx=>hx,fun x hx=>(by cases hx),fun x _ hx=>(by cases hx)⟩
  ·rcases hb with hb|hb
   ·obtain⟨m,g1,g2⟩:=(h1 b).1 hb
    exact⟨m,by omega,by simp only[if_neg (show m≠n by omega)];exact g2⟩
   exact⟨n,by omega,by simp only[if_true];exact hb⟩
  ·by_cases e:m=n
   ·simp only[if_pos e]at g2;exact .inr g2
   simp only[if_neg e]at g2;exact .inl ((h1 b).2 ⟨m,by omega,g2⟩)
  ·by_cases e:a=n
   ·by_cases e2:b=n
    ·rw[e,e2]
    simp only[if_pos e]at hx;simp only[if_neg e2]at hy
    exact(hd x ((h1 x).2 ⟨b,by omega,hy⟩) hx).elim
   by_cases e2:b=n
   ·simp only[if_neg e]at hx;simp only[if_pos e2]at hy
    exact(hd x ((h1 x).2 ⟨a,by omega,hx⟩) hy).elim
   simp only[if_neg e]at hx;simp only[if_neg e2]at hy
   exact h2 a b x (by omega) (by omega) hx hy
  unfold LD
  by_cases e:m=n
  ·simp only[if_pos e];exact hq
  simp only[if_neg e];exact h3 m (by omega)) hσ
def SP.Pure(p:SP):Prop:= ∀ v c c',p.H v c→p.H v c'
theorem RN(u:Value):(CW u).Pure:=fun _ _ _ h=>h
theorem mf:Ge.Pure:=fun _ _ _ h=>h
def Res.Pure(r:Res):Prop:= ∀ c c' ob,c'.w=c.w→r.H c ob→r.H c' ob
end Go.Bn
