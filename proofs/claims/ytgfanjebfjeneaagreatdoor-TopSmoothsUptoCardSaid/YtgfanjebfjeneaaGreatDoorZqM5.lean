/-
 Words of 64 bits: lengths of words, shifts to the right with what they lose.
-/
import Derived.Test.YtgfanjebfjeneaaGreatDoorZqM4
import Derived.Test.YtgfanjebfjeneaaGreatDoorZqM3
import GoSem.Extern.MathBitsCarry
set_option linter.unusedVariables false
set_option linter.unusedSimpArgs false
namespace Go.Bn
open Go
theorem nh(z:Int):z.fdiv (2^min (32:Int).toNat IntKind.u64.bits)=z/4294967296:=by
 show z.fdiv 4294967296=z/4294967296
 exact Bw z (by omega)
theorem Xv(z:Int):z.fdiv (2^min (16:Int).toNat IntKind.u64.bits)=z/65536:=by
 show z.fdiv 65536=z/65536
 exact Bw z (by omega)
theorem Ql(z:Int):z.fdiv (2^min (8:Int).toNat IntKind.u64.bits)=z/256:=by
 show z.fdiv 256=z/256
 exact Bw z (by omega)
theorem uE{z:Int}(h:4294967296≤z):(bl z.toNat:Int)=32+(bl (z/4294967296).toNat:Int):=by
 have:=QJ (t:=z.toNat) (k:=32) (by show 4294967296≤_;omega)
 rw[show z.toNat/2^32=(z/4294967296).toNat by show z.toNat/4294967296=_;omega]at this
 omega
theorem az(b:List Int)(k:Nat):Gi b k=b.getD k 0:=by
 unfold Gi
 split
 ·rfl
 rw[List.getD_eq_getElem?_getD,AT (by omega)];rfl
theorem bZ{m:List Int}{w s i:Nat}:(Gi m (w+i)+18446744073709551616*Gi m (w+i+1))/2^s % 18446744073709551616=LR m w s i:=by
 unfold LR
 rw[az,az]
theorem z5{s:Nat}(hs:s<64):IntKind.u64.wrap ((2:Int)^s-1)=(2:Int)^s-1:=by
 obtain⟨h1,h2,h3,h4⟩:=HQ hs
 exact DD (by omega) (by omega)
theorem a1k{s:Nat}(hs:s<64):IntKind.u64.wrap (1*2^min ((s:Nat):Int).toNat IntKind.u64.bits)=(2:Int)^s:=by
 obtain⟨h1,h2,h3,h4⟩:=HQ hs
 rw[fX hs,AK]
 omega
theorem dc{x:Int}{s:Nat}(hx:0≤x∧x<18446744073709551616)(hs:s<64):Ej .and .u64 x ((2:Int)^s-1)=x % 2^s:=by
 obtain⟨a,rfl⟩: ∃ n:Nat,x=n:=⟨x.toNat,by omega⟩
 obtain⟨h1,h2,h3,h4⟩:=HQ hs
 have hp:(2:Int)^s=((2^s:Nat):Int):=by simp
 rw[hp]at h1 h4⊢
 have e2:((2^s:Nat):Int) -1=((2^s-1:Nat):Int):=by omega
 rw[e2]
 have e1:(BitVec.ofInt 64 ((a:Nat):Int)).toNat=a:=by simp[BitVec.toNat_ofInt];omega
 have e4:(BitVec.ofInt 64 ((2^s-1:Nat):Int)).toNat=2^s-1:=by
  rw[BitVec.toNat_ofInt]
  omega
 have e3:Ej .and .u64 ((a:Nat):Int) ((2^s-1:Nat):Int)=IntKind.u64.wrap (((BitVec.ofInt 64 ((a:Nat):Int))&&&(BitVec.ofInt 64 ((2^s-1:Nat):Int))).toNat:Int):=rfl
 rw[e3,BitVec.toNat_and,e1,e4,M6,Nt]
 have:=Nat.mod_le a (2^s)
 rw[←Cg]
 omega
theorem lD{x y:Int}(hx:0≤x∧x<18446744073709551616)(hy:0≤y∧y<18446744073709551616):Ej .or .u64 x y=0↔x=0∧y=0:=by
 obtain⟨a,rfl⟩: ∃ n:Nat,x=n:=⟨x.toNat,by omega⟩
 obtain⟨b,rfl⟩: ∃ n:Nat,y=n:=⟨y.toNat,by omega⟩
 rw[KQ _ _ (by omega) (by omega)]
 constructor
 ·intro h
  have h0:a|||b=0:=by omega
  have:=Nat.or_eq_zero_iff.1 h0
  omega
 intro⟨h1,h2⟩
 have h1:a=0:=by omega
 have h2:b=0:=by omega
 subst h1 h2
 rfl
structure Vh(L:List Int)(r:Int)(i:Nat)(c:Int):Prop where
 hi:i≤L.length
 hc:0≤c∧c<18446744073709551616
 hz:c=0↔(r=0∧CS (L.take i)=0)
theorem ef{L:List Int}{r:Int}(hr:0≤r∧r<18446744073709551616):Vh L r 0 r:=⟨A7 _,hr,by simp[CS]⟩
theorem ee{L:List Int}{r c:Int}{i:Nat}(hL:DJ L)(h:Vh L r i c)(hi:i<L.length):Vh L r (i+1) (Ej .or .u64 c (L.getD i 0)):=by
 have g:=hL.at hi
 refine⟨hi,uV h.hc g,?_⟩
 rw[lD h.hc g,h.hz,EN hi,and_assoc]
 have h1:=DG (hL.take i)
 have h2:=Er i
 have h3:0≤Dg i*L.getD i 0:=Ae (by omega) g.1
 refine and_congr_right fun _=>⟨fun⟨e1,e2⟩=>by rw[e1,e2];simp,fun e=>?_⟩
 have e1:CS (L.take i)=0:=by omega
 have e2:Dg i*L.getD i 0=0:=by omega
 rcases Int.mul_eq_zero.1 e2 with h9|h9
 ·omega
 exact⟨e1,h9⟩
theorem qN{x:Int}{s:Nat}(hx:0≤x∧x<18446744073709551616):0≤x % 2^s∧x % 2^s<18446744073709551616:=by
 have hp:(0:Int)<2^s:=Int.pow_pos (by decide)
 have h1:=Ay x (show(2:Int)^s≠0 by omega)
 have h2:x % 2^s≤x:=by
  have h3:=Be x (2^s)
  have h4:0≤(2:Int)^s*(x/2^s):=Ae (by omega) (AY hx.1 (by omega))
  omega
 omega
theorem e9{x n i:Nat}{c:Int}(hw:n/64<(CQ x).length)(h:Vh ((CQ x).take (n/64)) ((CQ x).getD (n/64) 0 % 2^(n % 64)) i c)(hi:i=((CQ x).take (n/64)).length):(c=0↔x % 2^n=0):=by
 have hd:=D9 x
 rw[h.hz,hi,AI]
 have hs:=JY hw
 rw[Do]at hs
 obtain⟨r,hr⟩: ∃ r,r=(CQ x).getD (n/64) 0:=⟨_,rfl⟩
 obtain⟨T,hT⟩: ∃ T,T=CS ((CQ x).take (n/64)):=⟨_,rfl⟩
 obtain⟨D,hD⟩: ∃ D,D=CS ((CQ x).drop (n/64+1)):=⟨_,rfl⟩
 have gr:=hd.at hw
 have gT:=DG (hd.take (n/64))
 have lT:=Ex (hd.take (n/64))
 rw[A9,show min (n/64) (CQ x).length=n/64 by omega]at lT
 rw[←hr,←hT,←hD]at hs
 rw[←hr]at gr⊢
 rw[←hT]at gT lT⊢
 have hs64:n % 64<64:=Ap _ (by decide)
 obtain⟨h1,h2,h3,h4⟩:=HQ hs64
 have hW:=Er (n/64)
 obtain⟨W,hWe⟩: ∃ W,W=Dg (n/64):=⟨_,rfl⟩
 obtain⟨P,hP⟩: ∃ P:Int,P=2^(n % 64):=⟨_,rfl⟩
 obtain⟨Q,hQ⟩: ∃ Q:Int,Q=2^(64-n % 64):=⟨_,rfl⟩
 have hWP:W*P=((2^n:Nat):Int):=by
  rw[hWe,hP,M3,show 64*(n/64)+n % 64=n by omega];simp
 rw[←hP]at h1 h3⊢
 rw[←hQ]at h2 h3
 rw[←hWe]at hW lT hs
 have hm1:=Ay r (show P≠0 by omega)
 have hm2:=AB r (show 0<P by omega)
 have hrd:=Be r P
 obtain⟨m,hm⟩: ∃ m,m=r % P:=⟨_,rfl⟩
 obtain⟨q,hq⟩: ∃ q,q=r/P:=⟨_,rfl⟩
 rw[←hm]at hm1 hm2 hrd⊢
 rw[←hq]at hrd
 have e1:(x:Int)=(T+W*m)+((2^n:Nat):Int)*(q+Q*D):=by
  rw[hs,←hWP,←hrd,←h3]
  simp only[Al,Aw]
  omega
 have hWm:0≤W*m:=Ae (by omega) hm1
 have hb:T+W*m<((2^n:Nat):Int):=by
  rw[←hWP]
  have:=Ac (show m+1≤P by omega) (show 0≤W by omega)
  rw[Al]at this
  omega
 have e2:((x % 2^n:Nat):Int)=T+W*m:=by
  rw[Cg,e1,CG,AV (by omega) hb]
 constructor
 ·intro⟨a,b⟩
  rw[a,b,Int.mul_zero,Int.zero_add]at e2
  exact Int.ofNat.inj e2
 intro e
 rw[e]at e2
 have e3:T=0:=by simp at e2;omega
 have e4:W*m=0:=by simp at e2;omega
 rcases Int.mul_eq_zero.1 e4 with h9|h9
 ·omega
 exact⟨h9,e3⟩
theorem Ws{x n:Nat}(hw:(CQ x).length≤n/64):x<2^n:=by
 have h:=Ex (D9 x)
 rw[Do]at h
 have h2:=H6 hw
 rw[V7 (n/64)]at h2
 have h3:(2:Nat)^(64*(n/64))≤2^n:=Nat.pow_le_pow_right (by decide) (by omega)
 omega
theorem vB{x n:Nat}(hw:(CQ x).length≤n/64):CT .gtr (((CQ x).length:Nat):Int) 0=decide (x % 2^n≠0):=by
 have h:=Ws hw
 have h0:=F2 (n:=x)
 rw[BH h]
 by_cases e:x=0
 ·have:=h0.2 e;rw[this,e];decide
 have:(CQ x).length≠0:=fun e2=>e (h0.1 e2)
 simp[CT,e];omega
theorem vC{x n:Nat}{c:Int}(h:c=0↔x % 2^n=0):CT .neq c 0=decide (x % 2^n≠0):=by
 by_cases e:c=0
 ·have:=h.1 e
  simp[CT,e,this]
 have: ¬x % 2^n=0:=fun e2=>e (h.2 e2)
 simp[CT,e,this]
theorem X9{x n:Nat}(hw:(CQ x).length≤n/64):x/2^n=0:=Cn (Ws hw)
theorem mJ{x n i:Nat}(hw:n/64<(CQ x).length)(hi:i=(CQ x).length-n/64):(CS (K2 (CQ x) (n/64) (n % 64) i)).toNat=x/2^n:=by
 rw[mI (D9 x) (by omega) hi,kG]
theorem vV{x:Int}{t:Bool}{Y:Nat}(h:(decide (x<0)==t)=true):Ds t (x.natAbs+Y)=x+Ds t Y:=by
 unfold Ds
 by_cases hx:x<0<;>cases t<;>simp[hx]at h⊢ <;>omega
theorem vW{x:Int}{t:Bool}{Y:Nat}(h:(decide (x<0)==t)=false)(hle:Y≤x.natAbs):Ds (decide (x<0)) (x.natAbs-Y)=x+Ds t Y:=by
 unfold Ds
 by_cases hx:x<0<;>cases t<;>simp[hx]at h⊢ <;>omega
theorem vX{x:Int}{t:Bool}{Y:Nat}(h:(decide (x<0)==t)=false)(hle:x.natAbs≤Y):Ds t (Y-x.natAbs)=x+Ds t Y:=by
 unfold Ds
 by_cases hx:x<0<;>cases t<;>simp[hx]at h⊢ <;>omega
theorem nu{n k K:Nat}(h:n<2^k)(hk:k≤64*K):((n:Nat):Int)<Dg K:=by
 rw[V7];exact BJ.2 (B4 h (Nat.pow_le_pow_right (by decide) hk))
theorem nw{x:Int}{k:Nat}(h:x.natAbs<2^k)(hk:k≤64*1000000000):Yk x:=⟨by
 exact nu h hk⟩
theorem UR{x:Int}(h:x.natAbs<18446744073709551616):Yk x:=nw (k:=64) (by show _<18446744073709551616;exact h) (by decide)
abbrev q2(k:Nat):Int:=2^k
theorem nZ: ∀ n:Nat,Jf n=tz n:=by
 intro n
 induction n using Nat.strongRecOn with
 |ind n ih=>
 rw[Jf,tz]
 by_cases h:n=0
 ·simp[h]
 by_cases h2:n % 2=1
 ·have: ¬n % 2=0:=by omega
  simp[h,h2]
 have:n % 2=0:=by omega
 rw[dif_neg h,dif_neg h,if_neg h2,if_pos this,ih (n/2) (by omega)]
theorem rX{b:Nat}(hb:b<2^64):CT .neq (Ej .and .u64 ((b:Nat):Int) 9223372036854775808) 0=On b:=by
 rw[show(9223372036854775808:Int)=((2^63:Nat):Int) by decide,NC _ _ hb (by decide)]
 have e:b&&&2^63=2^63*(b/2^63 % 2):=by
  have h1:b/2^63&&&1=b/2^63 % 2:=by
   exact M6 (b/2^63) 1
  have h2:=Nat.and_div_two_pow (a:=b) (b:=2^63) (n:=63)
  have h3:=Nat.and_mod_two_pow (a:=b) (b:=2^63) (n:=63)
  rw[show(2:Nat)^63/2^63=1 by decide,h1]at h2
  rw[show(2:Nat)^63 % 2^63=0 by decide,Nat.and_zero]at h3
  have h4:=Cm (b&&&2^63) (2^63)
  rw[h2,h3]at h4
  omega
 rw[e]
 unfold On CT
 have hb':b<18446744073709551616:=hb
 have h9:b/2^63=b/9223372036854775808:=rfl
 rw[h9]
 by_cases h:b/9223372036854775808 % 2=1
 ·rw[h];decide
 rw[show b/9223372036854775808 % 2=0 by omega];decide
theorem vP{f:Nat}(hf:f<4503599627370496):Ej .or .u64 ((f:Nat):Int) 4503599627370496=((f+4503599627370496:Nat):Int):=by
 rw[show(4503599627370496:Int)=((2^52:Nat):Int) by decide,KQ _ _ (by omega) (by decide),Nat.or_comm]
 congr 1
 have:=Nat.two_pow_add_eq_or_of_lt (i:=52) (b:=f) (by omega) 1
 rw[Bz]at this
 rw[←this]
 omega
theorem ni{m:Nat}(h0:m≠0)(h:m<18446744073709551616):((m:Nat):Int).fdiv (2^min ((Jf m:Nat):Int).toNat IntKind.u64.bits)=((Kx m:Nat):Int):=by
 have h1:=o4 h0 h
 rw[nZ,Kx,if_neg h0]
 exact Jz m (tz m) (by omega)
theorem qU{m:Nat}{e:Int}(h:m≠0):IM m e=e+tz m:=by rw[IM,if_neg h]
theorem oV{b:Nat}(h:DF b=true):(JJ b=3∧Iw b=0∧He b=0)∨(JJ b=4∧FI b=0∧Iw b≠0∧Iw b=He b∧JK b= -1074)∨(JJ b=5∧0<FI b∧Iw b≠0∧Iw b=He b+4503599627370496∧JK b=(FI b:Int) -1075):=by
 have hx:FI b<2047:=by unfold DF at h;simpa using h
 unfold JJ
 by_cases h0:FI b=0
 ·obtain⟨h1,h2⟩:=tn h0
  by_cases hf:He b=0
  ·left
   rw[if_neg (by omega),if_neg (by omega),if_pos ⟨h0,hf⟩]
   omega
  right;left
  rw[if_neg (by omega),if_neg (by omega),if_neg (by omega),if_pos h0]
  omega
 obtain⟨h1,h2⟩:=kL (x:=b) (by omega)
 right;right
 rw[if_neg (by omega),if_neg (by omega),if_neg (by omega),if_neg h0]
 omega
theorem zc{m:Nat}{e:Int}(h:m=0):Kx m=0∧IM m e=0:=by unfold Kx IM;rw[if_pos h,if_pos h];exact⟨rfl,rfl⟩
theorem vR{b:Nat}(h:Iw b=He b+4503599627370496):Ej .or .u64 ((He b:Nat):Int) 4503599627370496=((Iw b:Nat):Int):=by rw[vP (aM b),h]
theorem ZX{m:Nat}{e:Int}(h0:m≠0)(h:m<18446744073709551616)(e0: -1000000≤e)(e1:e≤1000000):IntKind.i64.wrap (e+((Jf m:Nat):Int))=IM m e:=by
 have:=o4 h0 h
 rw[nZ,qU h0]
 exact zO (by omega) (by omega)
def Ty:Array Value→Sem Value:=fun args=>do
 let (x,y,c) ←Go.Extern.MathBitsCarry.three "Add64" args
 pure (Go.Extern.MathBitsCarry.pair ((x+y+c) % Go.Extern.MathBitsCarry.m64) ((x+y+c)/Go.Extern.MathBitsCarry.m64))
def TH:Array Value→Sem Value:=fun args=>do
 let (x,y,b) ←Go.Extern.MathBitsCarry.three "Sub64" args
 pure (Go.Extern.MathBitsCarry.pair ((x+Go.Extern.MathBitsCarry.m64-y-b) % Go.Extern.MathBitsCarry.m64) (if x<y+b then 1 else 0))
theorem XJ(name:String)(x y c:Value):Go.Extern.MathBitsCarry.three name #[x,y,c]=(do
  let c:=(←asInt c).toNat
  if c>1 then unsupported (.noEntry ("extern/math/bits." ++name++ ": a carry that is neither 0 nor 1"))
  pure ((←asInt x).toNat,(←asInt y).toNat,c)):=rfl
theorem fS{P:Program}{a b c:Int}(hc: ¬c.toNat>1)(w:World):(Ty #[.int .u64 a,.int .u64 b,.int .u64 c]).run P w= .ok (Go.Extern.MathBitsCarry.pair ((a.toNat+b.toNat+c.toNat) % Go.Extern.MathBitsCarry.m64) ((a.toNat+b.toNat+c.toNat)/Go.Extern.MathBitsCarry.m64)) w:=by
 unfold Ty
 rw[XJ]
 generalize Go.Extern.MathBitsCarry.m64=m
 simp only[asInt,asIntOf,pure_bind,if_neg hc]
 rfl
theorem fT{P:Program}{a b c:Int}(hc: ¬c.toNat>1)(w:World):(TH #[.int .u64 a,.int .u64 b,.int .u64 c]).run P w= .ok (Go.Extern.MathBitsCarry.pair ((a.toNat+Go.Extern.MathBitsCarry.m64-b.toNat-c.toNat) % Go.Extern.MathBitsCarry.m64) (if a.toNat<b.toNat+c.toNat then 1 else 0)) w:=by
 unfold TH
 rw[XJ]
 generalize Go.Extern.MathBitsCarry.m64=m
 simp only[asInt,asIntOf,pure_bind,if_neg hc]
 rfl
theorem kz:Go.Extern.MathBitsCarry.m64=18446744073709551616:=by unfold Go.Extern.MathBitsCarry.m64;decide
def Pi(x y b:Int):Int:=if x<y+b then x-(y+b)+18446744073709551616 else x-(y+b)
def Ph(x y b:Int):Int:=if x<y+b then 1 else 0
theorem lO{a b c:Int}(ha:0≤a)(hb:0≤b)(hc:0≤c):Go.Extern.MathBitsCarry.pair ((a.toNat+b.toNat+c.toNat) % Go.Extern.MathBitsCarry.m64) ((a.toNat+b.toNat+c.toNat)/Go.Extern.MathBitsCarry.m64)= .tuple #[.int .u64 (Lv a b c),.int .u64 (Kl a b c)]:=by
 rw[kz]
 have e1:Int.ofNat ((a.toNat+b.toNat+c.toNat) % 18446744073709551616)=Lv a b c:=by unfold Lv;show((_:Nat):Int)=_;omega
 have e2:Int.ofNat ((a.toNat+b.toNat+c.toNat)/18446744073709551616)=Kl a b c:=by unfold Kl;show((_:Nat):Int)=_;omega
 unfold Go.Extern.MathBitsCarry.pair
 rw[e1,e2]
theorem lP{a b c:Int}(ha:0≤a∧a<18446744073709551616)(hb:0≤b∧b<18446744073709551616)(hc:0≤c∧c≤1):Go.Extern.MathBitsCarry.pair ((a.toNat+Go.Extern.MathBitsCarry.m64-b.toNat-c.toNat) % Go.Extern.MathBitsCarry.m64) (if a.toNat<b.toNat+c.toNat then 1 else 0)= .tuple #[.int .u64 (Pi a b c),.int .u64 (Ph a b c)]:=by
 rw[kz]
 have e1:Int.ofNat ((a.toNat+18446744073709551616-b.toNat-c.toNat) % 18446744073709551616)=Pi a b c:=by unfold Pi;show((_:Nat):Int)=_;split<;>omega
 have e2:Int.ofNat (if a.toNat<b.toNat+c.toNat then 1 else 0)=Ph a b c:=by
  unfold Ph
  by_cases h:a<b+c
  ·rw[if_pos h,if_pos (by omega)];rfl
  rw[if_neg h,if_neg (by omega)];rfl
 unfold Go.Extern.MathBitsCarry.pair
 rw[e1,e2]
section ops
variable {P:Program} {n:Nat} {ops:Array Oper} {Γ:D2} {ρ:DU} {δ:DK} {τ:List VR}
variable {d:Nat} {ty:TypeId} {pos:String} {af:Array Edge}
theorem bJ{f:Nat}{g:Array Value→Sem Value}{x y z:Operand}{u1 u2 u3 u:Value}{q:SP}{ats:Array TypeId}(hf:Ya P f g)(hx:Lk Γ δ ρ x (CW u1))(hy:Lk Γ δ ρ y (CW u2))(hz:Lk Γ δ ρ z (CW u3))(h: ∀ w:World,(g #[u1,u2,u3]).run P w= .ok u w)(hq: ∀ c,q.H u c):
  OpOK P n ops Γ ρ δ τ ⟨some d,.call ⟨.value (.func f),#[x,y,z],ats⟩,ty,pos,af,none⟩ .no (.c q) ET:=
 Up fun a c _ hr=>by
  have h1:=(hr x _ (by simp[Op.operands,Call.operands]) hx).1
  have h2:=(hr y _ (by simp[Op.operands,Call.operands]) hy).1
  have h3:=(hr z _ (by simp[Op.operands,Call.operands]) hz).1
  refine⟨u,c.w.drawn,?_,hq⟩
  have h5:=cj hf #[u1,u2,u3] c.w (h c.w)
  have h4:a.eval (.func f)= .func (.func f) #[] #[]:=rfl
  simp[execOp,resolve,Deferred.ofValue,h4,invoke,h1,h2,h3,h5]
theorem Ky{f:Nat}{x y z:Operand}{a b c:Int}{ats:Array TypeId}(hf:Ya P f Ty)(hx:Lk Γ δ ρ x (CW (.int .u64 a)))(hy:Lk Γ δ ρ y (CW (.int .u64 b)))(hz:Lk Γ δ ρ z (CW (.int .u64 c)))(ha:0≤a)(hb:0≤b)(hc:0≤c∧c≤1):
  OpOK P n ops Γ ρ δ τ ⟨some d,.call ⟨.value (.func f),#[x,y,z],ats⟩,ty,pos,af,none⟩ .no (.c (EP [CW (.int .u64 (Lv a b c)),CW (.int .u64 (Kl a b c))])) ET:=
 bJ hf hx hy hz (fun w=>(fS (by omega) w).trans (by rw[lO ha hb hc.1])) fun c'=>⟨[_,_],rfl,⟨rfl,rfl⟩,⟨rfl,rfl⟩,trivial⟩
theorem RI{f:Nat}{x y z:Operand}{a b c:Int}{ats:Array TypeId}(hf:Ya P f TH)(hx:Lk Γ δ ρ x (CW (.int .u64 a)))(hy:Lk Γ δ ρ y (CW (.int .u64 b)))(hz:Lk Γ δ ρ z (CW (.int .u64 c)))(ha:0≤a∧a<18446744073709551616)(hb:0≤b∧b<18446744073709551616)(hc:0≤c∧c≤1):
  OpOK P n ops Γ ρ δ τ ⟨some d,.call ⟨.value (.func f),#[x,y,z],ats⟩,ty,pos,af,none⟩ .no (.c (EP [CW (.int .u64 (Pi a b c)),CW (.int .u64 (Ph a b c))])) ET:=
 bJ hf hx hy hz (fun w=>(fT (by omega) w).trans (by rw[lP ha hb hc])) fun c'=>⟨[_,_],rfl,⟨rfl,rfl⟩,⟨rfl,rfl⟩,trivial⟩
end ops
theorem XE{x y b:Int}(hx:0≤x∧x<18446744073709551616)(hy:0≤y∧y<18446744073709551616)(hb:0≤b∧b≤1):0≤Pi x y b∧Pi x y b<18446744073709551616∧(Ph x y b=0∨Ph x y b=1)∧Pi x y b=x-(b+y)+18446744073709551616*Ph x y b:=by
 unfold Pi Ph
 split<;>omega
structure SC(a b l:List Int)(i:Nat):Prop where
 hi:i≤a.length
 hl:l.length=a.length+b.length
 hd:DJ l
 hm:CS (l.take (i+b.length))=CS (a.take i)*CS b
structure Vk(a b l0 l:List Int)(i k:Nat)(c:Int):Prop where
 hk:k≤b.length
 hl:l.length=a.length+b.length
 hd:DJ l
 hc:0≤c∧c<18446744073709551616
 hs: ∀ j,i+k≤j→l.getD j 0=l0.getD j 0
 hm:CS (l.take (i+k))+Dg (i+k)*c=CS (l0.take (i+k))+Dg i*(a.getD i 0*CS (b.take k))
theorem YZ{a b:List Int}{m:Nat}(hm:m=a.length+b.length):SC a b (List.replicate m 0) 0:=by
 subst hm
 refine⟨A7 _,by rw[Am],IE _,?_⟩
 rw[List.take_replicate,Ml]
 simp[CS]
theorem YW{a b l:List Int}{i:Nat}(h:SC a b l i):Vk a b l l i 0 0:=
 ⟨A7 _,h.hl,h.hd,by omega,fun _ _=>rfl,by simp[CS]⟩
theorem O3{x y:Int}(hx:0≤x∧x<18446744073709551616)(hy:0≤y∧y<18446744073709551616):0≤x*y∧x*y≤340282366920938463426481119284349108225:=by
 have h1:=Ae hx.1 hy.1
 have h2:x*y≤18446744073709551615*18446744073709551615:=Bc (by omega) (by omega) hy.1 (by omega)
 omega
theorem YV{a b l0 l:List Int}{i k:Nat}{c t:Int}(ha:DJ a)(hb:DJ b)(h:Vk a b l0 l i k c)(hi:i<a.length)(hk:k<b.length)(hl0:l0.length=a.length+b.length)(ht:t=a.getD i 0*b.getD k 0+l.getD (i+k) 0+c):Vk a b l0 (l.set (i+k) (t % 18446744073709551616)) i (k+1) (t/18446744073709551616):=by
 obtain⟨h1,h2,h3,h4,h5,h6⟩:=h
 have g1:=ha.at hi
 have g2:=hb.at hk
 have g3:=h3.at (k:=i+k) (by omega)
 have g4:=O3 g1 g2
 refine⟨by omega,by rw[Aa];exact h2,h3.set (by omega),by omega,fun j hj=>?_,?_⟩
 ·rw[←h5 j (by omega)]
  have:i+k≠j:=by omega
  simp[List.getD,Cj,this]
 rw[show i+(k+1)=i+k+1 by omega,Gy (by omega),EN (l:=l0) (by omega),EN hk,Em,←h5 (i+k) (A5 _)]
 have e2:Dg (i+k)*(t % 18446744073709551616)+18446744073709551616*Dg (i+k)*(t/18446744073709551616)=Dg (i+k)*t:=by
  have:=Be t 18446744073709551616
  rw[Ab 18446744073709551616 (Dg (i+k)),Aw,←Al,this]
 have e3:Dg (i+k)*t=Dg (i+k)*(a.getD i 0*b.getD k 0)+Dg (i+k)*l.getD (i+k) 0+Dg (i+k)*c:=by rw[ht,Al,Al]
 have e4:Dg i*(a.getD i 0*(CS (b.take k)+Dg k*b.getD k 0))=Dg i*(a.getD i 0*CS (b.take k))+Dg (i+k)*(a.getD i 0*b.getD k 0):=by
  rw[Al,Al,JG,BV (a.getD i 0) (Dg k),Aw (Dg i) (Dg k)]
 rw[e4]
 omega
theorem YY{a b l0 l:List Int}{i k:Nat}{c:Int}(h0:SC a b l0 i)(h:Vk a b l0 l i k c)(hi:i<a.length)(hk:k=b.length):SC a b (l.set (i+b.length) c) (i+1):=by
 obtain⟨h1,h2,h3,h4,h5,h6⟩:=h
 subst hk
 refine⟨by omega,by rw[Aa];exact h2,h3.set h4,?_⟩
 rw[show i+1+b.length=i+b.length+1 by omega,Gy (by omega),h6,h0.hm,EN hi,Du (A5 b.length),AJ,Aw]
theorem YX{a b l:List Int}{i:Nat}(h:SC a b l i)(hi:i=a.length):DJ l∧CS l=CS a*CS b:=by
 subst hi
 have:=h.hm
 rw[Du (by rw[h.hl];exact A5 _),Du (A5 _)]at this
 exact⟨h.hd,this⟩
theorem Fw{x y:Nat}(h:x≤y):(CQ x).length≤(CQ y).length:=by
 refine Aj fun hc=>?_
 have:=Mi (x:=y) (y:=x) (by omega)
 omega
theorem N8{x y:Nat}:(CQ (x*y)).length≤(CQ x).length+(CQ y).length:=by
 refine FR ?_
 have h1:=Ex (D9 x)
 have h2:=Ex (D9 y)
 have h3:=DG (D9 x)
 have h4:=DG (D9 y)
 rw[Do]at h1 h2 h3 h4
 rw[JG,Ad]
 have hp:=Er (CQ y).length
 have h5:(x:Int)*y≤(Dg (CQ x).length-1)*(y:Int):=Af (by omega) h4
 have h6:(Dg (CQ x).length-1)*(y:Int)≤(Dg (CQ x).length-1)*(Dg (CQ y).length-1):=Ac (by omega) (by omega)
 have h7:(Dg (CQ x).length-1)*(Dg (CQ y).length-1)<Dg (CQ x).length*Dg (CQ y).length:=by
  have h8:=Er (CQ x).length
  generalize Dg (CQ x).length=A at*
  generalize Dg (CQ y).length=B at*
  have:(A-1)*(B-1)=A*B-A-B+1:=by grind
  omega
 omega
theorem Na{l:List Int}{k:Nat}(hk:k<l.length):CS (l.drop k)=l.getD k 0+18446744073709551616*CS (l.drop (k+1)):=by
 rw[BZ hk,CS,List.getD,Ag hk]
 rfl
theorem OX{l:List Int}{k:Nat}(hk:l.length≤k):CS (l.drop k)=0:=by rw[BK hk];rfl
theorem Mj(l:List Int)(k:Nat)(hk:k≤l.length):CS l=CS (l.take k)+Dg k*CS (l.drop k):=by
 have h:=G1 (l.take k) (l.drop k)
 rw[Bu,A9,At hk]at h
 exact h
theorem NK{l:List Int}{i k:Nat}{v:Int}(h:i<k):(l.set i v).drop k=l.drop k:=by
 apply C1
 intro j
 rw[AF,AF,Bq (by omega)]
theorem TR(l:List Int)(j i:Nat)(v:Int):(l.set (j+i) v).drop j=(l.drop j).set i v:=by
 apply C1
 intro k
 rw[AF]
 by_cases e:i=k
 ·subst e
  by_cases hl:j+i<l.length
  ·rw[BL hl,BL (by rw[AD];omega)]
  rw[AT (by rw[Aa];omega),AT (by rw[Aa,AD];omega)]
 rw[Bq (by omega),Bq e,AF]
theorem Je{l:List Int}{i k:Nat}{v:Int}(h:k≤i):(l.set i v).take k=l.take k:=by
 apply C1
 intro j
 rw[B9,B9]
 split
 ·rw[Bq (by omega)]
 rfl
theorem W0(l:List Int)(j i:Nat):(l.drop j).getD i 0=l.getD (j+i) 0:=by rw[List.getD,List.getD,AF]
theorem SQ: ∀ {a b:List Int},DJ a→DJ b→a.length=b.length→CS a=CS b→a=b
 |[],[],_,_,_,_=>rfl
 |[],_::_,_,_,h,_=>by simp at h
 |_::_,[],_,_,h,_=>by simp at h
 |x::a,y::b,ha,hb,hl,hm=>by
  rw[CS,CS]at hm
  have h1:=ha.head
  have h2:=hb.head
  have e:x=y:=by omega
  have e2:CS a=CS b:=by omega
  rw[e,SQ ha.tail hb.tail (by simpa using hl) e2]
structure SE(m l:List Int)(d:Int)(k:Nat)(r:Int):Prop where
 hl:l.length=m.length
 hd:DJ l
 hk:k≤m.length
 hr:0≤r∧r<d
 hv:CS (l.drop k)*d+r=CS (m.drop k)
theorem gf{m:List Int}{d:Int}(hd:0<d):SE m (List.replicate m.length 0) d m.length 0 where
 hl:=Am
 hd:=IE _
 hk:=A5 _
 hr:=⟨by omega,hd⟩
 hv:=by rw[OX (by rw[Am];exact A5 _),OX (A5 _)];omega
theorem fZ{m l:List Int}{d r t:Int}{j:Nat}(hm:DJ m)(hd:0<d)(h:SE m l d (j+1) r)(ht:t=r*18446744073709551616+m.getD j 0):SE m (l.set j (t/d)) d j (t % d)∧0≤t/d∧t/d<18446744073709551616∧0≤t∧t<d*18446744073709551616:=by
 have hk:=h.hk
 have hl:=h.hl
 obtain⟨r0,r1⟩:=h.hr
 have hx:=hm.at (k:=j) (by omega)
 have t0:0≤t:=by omega
 have t1:t<d*18446744073709551616:=by omega
 have q0:0≤t/d:=AY t0 (by omega)
 have q1:t/d<18446744073709551616:=Bb hd (by rw[Ab];exact t1)
 have e:=AR t d
 have m0:=Ay t (show d≠0 by omega)
 have m1:=AB t hd
 refine⟨⟨by rw[Aa];exact hl,h.hd.set ⟨q0,q1⟩,by omega,⟨m0,m1⟩,?_⟩,q0,q1,t0,t1⟩
 have hv:=h.hv
 rw[Na (l:=l.set j (t/d)) (by rw[Aa];omega),NK (by omega),Hu (by omega),Na (l:=m) (by omega)]
 generalize t/d=q at*
 generalize t % d=s at*
 generalize CS (l.drop (j+1))=L at*
 generalize CS (m.drop (j+1))=M at*
 grind
theorem fY{m l:List Int}{d r:Int}(hd:0<d)(h:SE m l d 0 r):CS l=CS m/d∧r=CS m % d:=by
 have hv:=h.hv
 obtain⟨r0,r1⟩:=h.hr
 rw[B7,B7]at hv
 rw[←hv,BU]
 constructor
 ·rw[CF _ _ (by omega),Bv r0 r1];omega
 rw[CH,AV r0 r1]
def Dy(l:List Int)(j n:Nat):Int:=CS ((l.drop j).take n)
theorem Is{l:List Int}(h:DJ l)(j n:Nat)(hn:j+n≤l.length):0≤Dy l j n∧Dy l j n<Dg n:=by
 have h1:=(h.drop j).take n
 have h2:=Ex h1
 rw[A9,AD,At (by omega)]at h2
 exact⟨DG h1,h2⟩
theorem GX{l:List Int}{j n:Nat}(hn:j+n<l.length):Dy l j (n+1)=Dy l j n+Dg n*l.getD (j+n) 0:=by
 unfold Dy
 rw[EN (l:=l.drop j) (by rw[AD];omega),W0]
theorem Mt{l:List Int}{j n:Nat}{v:Int}(hn:j+n<l.length):Dy (l.set (j+n) v) j (n+1)=Dy l j n+Dg n*v:=by
 unfold Dy
 rw[TR,Gy (by rw[AD];omega)]
structure Vg(u d l:List Int)(j:Nat)(g:Int)(i:Nat)(c b:Int):Prop where
 hl:l.length=u.length
 hd:DJ l
 ht:l.take j=u.take j
 hr: ∀ k,j+i≤k→l.getD k 0=u.getD k 0
 hi:i≤d.length
 hc:0≤c∧c<18446744073709551616
 hb:b=0∨b=1
 hv:Dy l j i=Dy u j i-g*CS (d.take i)+Dg i*(c+b)
theorem dZ{u d:List Int}{j:Nat}{g:Int}(hu:DJ u):Vg u d u j g 0 0 0 where
 hl:=rfl
 hd:=hu
 ht:=rfl
 hr:=fun _ _=>rfl
 hi:=A7 _
 hc:=⟨by omega,by omega⟩
 hb:= .inl rfl
 hv:=by
  unfold Dy
  simp only[Bi]
  show(0:Int)=0-g*0+Dg 0*(0+0)
  omega
theorem dY{u d l:List Int}{j i:Nat}{g c b p y v b':Int}(hd:DJ d)(hg:0≤g∧g≤18446744073709551616)(h:Vg u d l j g i c b)(hi:i<d.length)(hn:j+d.length<u.length)(hp:p=g*d.getD i 0+c)(hy:y=p % 18446744073709551616+b)(hb':b'=0∨b'=1)(hv:v=l.getD (j+i) 0-y+18446744073709551616*b')(h0:0≤v∧v<18446744073709551616):
  Vg u d (l.set (j+i) v) j g (i+1) (p/18446744073709551616) b' where
 hl:=by rw[Aa];exact h.hl
 hd:=h.hd.set h0
 ht:=by rw[Je (by omega)];exact h.ht
 hr:=fun k hk=>by rw[getD_set_ne (by omega)];exact h.hr k (by omega)
 hi:=hi
 hc:=by
  have hx:=hd.at (k:=i) hi
  obtain⟨c0,c1⟩:=h.hc
  have p0:0≤g*d.getD i 0:=Ae hg.1 hx.1
  have p1:g*d.getD i 0≤18446744073709551616*18446744073709551615:=Bc hg.2 (by omega) hx.1 (by omega)
  generalize g*d.getD i 0=z at*
  omega
 hb:=hb'
 hv:=by
  have hlen:=h.hl
  have e0:=h.hr (j+i) (A5 _)
  rw[Mt (by omega),GX (l:=u) (by omega),EN hi,Em,h.hv,hv,e0,hy,hp]
  have e:=AR (g*d.getD i 0+c) 18446744073709551616
  generalize (g*d.getD i 0+c)/18446744073709551616=q at*
  generalize (g*d.getD i 0+c) % 18446744073709551616=s at*
  generalize u.getD (j+i) 0=x at*
  generalize d.getD i 0=w at*
  generalize CS (d.take i)=D at*
  generalize Dy u j i=U at*
  generalize Dg i=B at*
  grind
def NG:Nat→Int→List Int
 |0,_=>[]
 |n+1,v=>v % 18446744073709551616::NG n (v/18446744073709551616)
theorem Hs: ∀ (n:Nat) (v:Int),(NG n v).length=n
 |0,_=>rfl
 |n+1,v=>by rw[NG,AG,Hs n]
theorem OO: ∀ (n:Nat) (v:Int),DJ (NG n v)
 |0,_=>VI
 |n+1,v=>fun z hz=>by
  rw[NG]at hz
  rcases AH.1 hz with e|e
  ·subst e;omega
  exact OO n _ z e
theorem M7: ∀ {n:Nat} {v:Int},0≤v→v<Dg n→CS (NG n v)=v
 |0,v,h0,h1=>by rw[GC]at h1;show(0:Int)=v;omega
 |n+1,v,h0,h1=>by
  rw[Em]at h1
  rw[NG,CS,M7 (n:=n) (by omega) (by omega)]
  omega
def H8(u:List Int)(j n:Nat)(v:Int):List Int:=u.take j++(NG n v++u.drop (j+n))
theorem Mr{u:List Int}{j n:Nat}{v:Int}(h:j+n≤u.length):(H8 u j n v).length=u.length:=by
 unfold H8
 rw[As,As,A9,Hs,AD]
 omega
theorem Td{u:List Int}(hu:DJ u)(j n:Nat)(v:Int):DJ (H8 u j n v):=fun z hz=>by
 unfold H8 at hz
 rcases BD.1 hz with e|e
 ·exact hu z (CA e)
 rcases BD.1 e with e|e
 ·exact OO n v z e
 exact hu z (List.mem_of_mem_drop e)
theorem fD{u:List Int}{j n:Nat}{v:Int}(h:j+n≤u.length)(h0:0≤v)(h1:v<Dg n):CS (H8 u j n v)=CS u-Dg j*Dy u j n+Dg j*v:=by
 have e1:=Mj u j (by omega)
 have e2:=Mj (u.drop j) n (by rw[AD];omega)
 rw[List.drop_drop]at e2
 unfold H8
 rw[G1,G1,M7 h0 h1,Hs,A9,At (by omega),e1,e2]
 unfold Dy
 generalize CS ((u.drop j).take n)=s at*
 generalize CS (u.drop (j+n))=t at*
 generalize Dg j=B at*
 generalize Dg n=C at*
 grind
theorem X6{u l:List Int}{j n:Nat}{v:Int}(hl:l.length=u.length)(hd:DJ l)(hn:j+n≤u.length)(ht:l.take j=u.take j)(hr: ∀ k,j+n≤k→l.getD k 0=u.getD k 0)(hv:Dy l j n=v):l=H8 u j n v:=by
 have e:l=l.take j++((l.drop j).take n++l.drop (j+n)):=by
  rw[show l.drop (j+n)=(l.drop j).drop n by rw[List.drop_drop],Bu,Bu]
 have h1:=Is hd j n (by omega)
 have e1:(l.drop j).take n=NG n v:=by
  refine SQ ((hd.drop j).take n) (OO n v) (by rw[A9,AD,Hs];omega) ?_
  rw[M7 (by rw[←hv];exact h1.1) (by rw[←hv];exact h1.2)]
  exact hv
 have e2:l.drop (j+n)=u.drop (j+n):=by
  apply C1
  intro k
  rw[AF,AF]
  have:=hr (j+n+k) (by omega)
  rw[List.getD,List.getD]at this
  by_cases hk:j+n+k<u.length
  ·rw[Ag hk,Ag (show j+n+k<l.length by omega)]at this⊢
   simpa using this
  rw[AT (by omega),AT (by omega)]
 rw[e,ht,e1,e2]
 rfl
def Gc(u d:List Int)(j:Nat)(g:Int):Int:=Dy u j (d.length+1) -g*CS d
def I9(u d:List Int)(j:Nat)(g:Int):List Int:=H8 u j (d.length+1) (Gc u d j g+if Gc u d j g<0 then Dg (d.length+1)else 0)
theorem dX{u d l:List Int}{j:Nat}{g c b x y:Int}(hu:DJ u)(h:Vg u d l j g d.length c b)(hn:j+d.length<u.length)(hx:x=l.getD (j+d.length) 0)(hy:y=c+b):
  l.set (j+d.length) ((x-y) % 18446744073709551616)=I9 u d j g∧(x<y↔Gc u d j g<0):=by
 have hlen:=h.hl
 obtain⟨c0,c1⟩:=h.hc
 have hb:=h.hb
 have e0:=h.hr (j+d.length) (A5 _)
 have hx0:=hu.at (k:=j+d.length) (by omega)
 have hw:Gc u d j g=Dy l j d.length+Dg d.length*(x-y):=by
  unfold Gc
  rw[GX hn,h.hv,AI,hx,hy,e0]
  generalize CS d=D
  generalize Dy u j d.length=U
  generalize Dg d.length=B
  generalize u.getD (j+d.length) 0=z
  grind
 have hs:=Is h.hd j d.length (by omega)
 have hB:=Er d.length
 have On:x<y↔Gc u d j g<0:=by
  rw[hw]
  constructor
  ·intro hxy
   have:Dg d.length*(x-y)≤Dg d.length*(-1):=Ac (by omega) (by omega)
   omega
  intro hneg
  refine Aj fun hc=>?_
  have:0≤Dg d.length*(x-y):=Ae (by omega) (by omega)
  omega
 refine⟨?_,On⟩
 unfold I9
 refine X6 (by rw[Aa];exact hlen) (h.hd.set ⟨by omega,by omega⟩) (by omega) (by rw[Je (by omega)];exact h.ht) (fun k hk=>by rw[getD_set_ne (by omega)];exact h.hr k (by omega)) ?_
 rw[Mt (by omega)]
 by_cases hxy:x<y
 ·rw[if_pos (On.1 hxy),hw,show(x-y) % 18446744073709551616=x-y+18446744073709551616 by omega,Em,Al]
  generalize Dg d.length*(x-y)=z
  omega
 rw[if_neg (fun h=>hxy (On.2 h)),hw,show(x-y) % 18446744073709551616=x-y by omega]
 omega
structure SB(u d l:List Int)(j:Nat)(i:Nat)(c:Int):Prop where
 hl:l.length=u.length
 hd:DJ l
 ht:l.take j=u.take j
 hr: ∀ k,j+i≤k→l.getD k 0=u.getD k 0
 hi:i≤d.length
 hc:0≤c∧c≤1
 hv:Dy l j i+Dg i*c=Dy u j i+CS (d.take i)
theorem eG{u d:List Int}{j:Nat}(hu:DJ u):SB u d u j 0 0 where
 hl:=rfl
 hd:=hu
 ht:=rfl
 hr:=fun _ _=>rfl
 hi:=A7 _
 hc:=⟨by omega,by omega⟩
 hv:=by
  unfold Dy
  rw[Bi,Bi]
  show(0:Int)+Dg 0*0=0+0
  omega
theorem eC{u d l:List Int}{j i:Nat}{c t:Int}(hd:DJ d)(h:SB u d l j i c)(hi:i<d.length)(hn:j+d.length<u.length)(ht:t=l.getD (j+i) 0+d.getD i 0+c):SB u d (l.set (j+i) (t % 18446744073709551616)) j (i+1) (t/18446744073709551616) where
 hl:=by rw[Aa];exact h.hl
 hd:=h.hd.set ⟨by omega,by omega⟩
 ht:=by rw[Je (by omega)];exact h.ht
 hr:=fun k hk=>by rw[getD_set_ne (by omega)];exact h.hr k (by omega)
 hi:=hi
 hc:=by
  have hx:=hd.at (k:=i) hi
  have hlen:=h.hl
  have hy:=h.hd.at (k:=j+i) (by omega)
  have:=h.hc
  omega
 hv:=by
  have hlen:=h.hl
  have e0:=h.hr (j+i) (A5 _)
  have hv:=h.hv
  rw[Mt (by omega),GX (l:=u) (by omega),EN hi,Em]
  have e:=AR t 18446744073709551616
  rw[ht,e0]at e
  rw[ht,e0]
  generalize (u.getD (j+i) 0+d.getD i 0+c)/18446744073709551616=q at*
  generalize (u.getD (j+i) 0+d.getD i 0+c) % 18446744073709551616=s at*
  generalize u.getD (j+i) 0=x at*
  generalize d.getD i 0=w at*
  generalize CS (d.take i)=D at*
  generalize Dy u j i=U at*
  generalize Dy l j i=L at*
  generalize Dg i=B at*
  grind
def bA(u d:List Int)(j:Nat):List Int:=H8 u j (d.length+1) ((Dy u j (d.length+1)+CS d) % Dg (d.length+1))
theorem eB{u d l:List Int}{j:Nat}{c:Int}(hu:DJ u)(h:SB u d l j d.length c)(hn:j+d.length<u.length):l.set (j+d.length) ((l.getD (j+d.length) 0+c) % 18446744073709551616)=bA u d j:=by
 have hlen:=h.hl
 obtain⟨c0,c1⟩:=h.hc
 have e0:=h.hr (j+d.length) (A5 _)
 have hx0:=hu.at (k:=j+d.length) (by omega)
 have hs:=Is h.hd j d.length (by omega)
 have hB:=Er d.length
 unfold bA
 refine X6 (by rw[Aa];exact hlen) (h.hd.set ⟨by omega,by omega⟩) (by omega) (by rw[Je (by omega)];exact h.ht) (fun k hk=>by rw[getD_set_ne (by omega)];exact h.hr k (by omega)) ?_
 have hv:=h.hv
 rw[AI]at hv
 rw[Mt (by omega),GX hn,e0,Em]
 generalize u.getD (j+d.length) 0=x at*
 have hz:Dy u j d.length+Dg d.length*x+CS d=Dy l j d.length+Dg d.length*(x+c):=by
  generalize CS d=D at*
  generalize Dy u j d.length=U at*
  generalize Dy l j d.length=L at*
  generalize Dg d.length=B at*
  grind
 rw[hz]
 generalize Dy l j d.length=L at*
 generalize Dg d.length=B at*
 have hq:(x+c) % 18446744073709551616=x+c∨(x+c) % 18446744073709551616=x+c-18446744073709551616∧x+c=18446744073709551616:=by omega
 rcases hq with hq|⟨hq,hq2⟩
 ·rw[hq]
  have h1:0≤B*(x+c):=Ae (by omega) (by omega)
  have h2:B*(x+c)≤B*18446744073709551615:=Ac (by omega) (by omega)
  rw[AV (by omega) (by omega)]
 rw[hq,hq2,Ab B 18446744073709551616,Int.add_emod_right,AV (by omega) (by omega)]
 omega
structure ZW(t top d2 u2 q:Int)(g r:Int):Prop where
 e:g*top+r=t
 hr:0≤r
 hq:q≤g
 hg:g≤18446744073709551617
structure Qv(W D B:Int)(t top d2 u2:Int):Prop where
 B0:1≤B
 w0:(t*18446744073709551616+u2)*B≤W
 w1:W<(t*18446744073709551616+u2+1)*B
 d0:(top*18446744073709551616+d2)*B≤D
 d1:D<(top*18446744073709551616+d2+1)*B
 ht:9223372036854775808≤top∧top<18446744073709551616
 hd2:0≤d2∧d2<18446744073709551616
 hu2:0≤u2∧u2<18446744073709551616
 hW0:0≤W
 hW:W<D*18446744073709551616
theorem PZ{W D B t top d2 u2:Int}(h:Qv W D B t top d2 u2):0<D:=by
 have h1:=h.d0
 have h2:=h.B0
 have h3:=h.ht
 have h4:=h.hd2
 have:1*1≤(top*18446744073709551616+d2)*B:=Bc (by omega) h2 (by omega) (by omega)
 omega
theorem UB{W D q:Int}(hD:0<D):q≤W/D↔q*D≤W:=CJ hD
theorem Q0{W D B t top d2 u2:Int}(h:Qv W D B t top d2 u2):0≤W/D∧W/D<18446744073709551616:=by
 have hD:=PZ h
 exact⟨AY h.hW0 (by omega),Bb hD (by rw[Ab];exact h.hW)⟩
theorem gJ {W D B t top d2 u2 : Int} (h : Qv W D B t top d2 u2) : ZW t top d2 u2 (W / D) (t / top) (t % top) := by
 obtain ⟨t1, t2⟩ := h.ht
 have hD := PZ h
 have hq := Q0 h
 have hB := h.B0
 obtain ⟨q, eq⟩ : ∃ q, q = W / D := ⟨_, rfl⟩
 have q1 : q * D ≤ W := by rw [eq]; exact (UB hD).1 (Int.le_refl _)
 rw [← eq] at hq ⊢
 -- q top <= t
 have k1 : q * top ≤ t := by
  refine Aj fun hc => ?_
  have h1 : t + 1 ≤ q * top := by omega
  have h2 : (t + 1) * 18446744073709551616 * B ≤ q * top * 18446744073709551616 * B := Af (Af h1 (by omega)) (by omega)
  have h3 : q * ((top * 18446744073709551616 + d2) * B) ≤ q * D := Ac h.d0 hq.1
  have h4 : 0 ≤ q * (d2 * B) := Ae hq.1 (Ae h.hd2.1 (by omega))
  have h5 := h.w1
  have h6 : (u2 + 1) * B ≤ 18446744073709551616 * B := Af (by have := h.hu2; omega) (by omega)
  grind
 have k2 : q ≤ t / top := (UB (by omega)).2 k1
 -- t < (top + 1) 2^64
 have k3 : t < (top + 1) * 18446744073709551616 := by
  refine Aj fun hc => ?_
  have h1 : (top + 1) * 18446744073709551616 ≤ t := by omega
  have h2 : (top + 1) * 18446744073709551616 * 18446744073709551616 * B ≤ t * 18446744073709551616 * B := Af (Af h1 (by omega)) (by omega)
  have h3 := h.w0
  have h4 := h.hW
  have h5 := h.d1
  have h6 : 0 ≤ u2 * B := Ae h.hu2.1 (by omega)
  have h7 : (d2 + 1) * B ≤ 18446744073709551616 * B := Af (by have := h.hd2; omega) (by omega)
  grind
 have k4 : t / top < 18446744073709551618 := Bb (by omega) (by omega)
 exact ⟨by rw [Ab]; exact AR t top, Ay _ (by omega), k2, by omega⟩
theorem gI{W D B t top d2 u2 g r:Int}(h:Qv W D B t top d2 u2)(i:ZW t top d2 u2 (W/D) g r)(hc:18446744073709551616≤g∨r*18446744073709551616+u2<g*d2):ZW t top d2 u2 (W/D) (g-1) (r+top):=by
 have hD:=PZ h
 have hq:=Q0 h
 have hB:=h.B0
 have ht:=h.ht
 have i1:=i.hr
 have i2:=i.hq
 have i3:=i.hg
 refine⟨by have:=i.e;rw[←this,Int.sub_mul];omega,by omega,?_,by omega⟩
 rcases hc with hc|hc
 ·omega
 refine Aj fun hn=>?_
 have e:W/D=g:=by omega
 have q1:g*D≤W:=by rw[←e];exact(UB hD).1 (Int.le_refl _)
 have g0:0≤g:=by omega
 have h3:g*((top*18446744073709551616+d2)*B)≤g*D:=Ac h.d0 g0
 have h4:(r*18446744073709551616+u2+1)*B≤g*d2*B:=Af (by omega) (by omega)
 have h5:=h.w1
 have h6:=i.e
 have e7:t*18446744073709551616*B=(g*top)*18446744073709551616*B+r*18446744073709551616*B:=by rw[←h6];grind
 grind
structure SD(U0:Int)(d u q:List Int)(m k:Nat):Prop where
 hul:u.length=m+d.length
 hql:q.length=m
 hud:DJ u
 hqd:DJ q
 hk:k≤m
 hv:U0=CS (q.drop k)*Dg k*CS d+CS u
 hb:CS u<CS d*Dg k
theorem fj{u d:List Int}{m:Nat}(hu:DJ u)(hl:u.length=m+d.length)(hb:CS u<CS d*Dg m):SD (CS u) d u (List.replicate m 0) m m where
 hul:=hl
 hql:=Am
 hud:=hu
 hqd:=IE m
 hk:=A5 _
 hv:=by rw[OX (by rw[Am];exact A5 _)];omega
 hb:=hb
theorem Tm{u:List Int}{j n:Nat}(hu:DJ u)(hn:j+n≤u.length)(hb:CS u<Dg (j+n)):CS u=CS (u.take j)+Dg j*Dy u j n∧CS (u.drop (j+n))=0:=by
 have e1:=Mj u j (by omega)
 have e2:=Mj (u.drop j) n (by rw[AD];omega)
 rw[List.drop_drop]at e2
 have h0:=DG (hu.drop (j+n))
 have h1:=DG (hu.take j)
 have h2:=DG ((hu.drop j).take n)
 have hj:=Er j
 have hz:CS (u.drop (j+n))=0:=by
  refine Aj fun hc=>?_
  have h3:Dg n*1≤Dg n*CS (u.drop (j+n)):=Ac (by omega) (by have:=Er n;omega)
  have h4:Dg j*(Dg n*1)≤Dg j*CS (u.drop j):=Ac (by omega) (by omega)
  rw[JG]at hb
  rw[AZ]at h4
  omega
 refine⟨?_,hz⟩
 rw[e1,e2,hz,Int.mul_zero,Ba]
 rfl
section step
variable {U0:Int} {d u q:List Int} {m j:Nat} (hd:DJ d) (h:SD U0 d u q m (j+1)) (hn:2≤d.length) (hD:0<CS d)
include hd h hn hD
omit hD in
theorem lF:CS u=CS (u.take j)+Dg j*Dy u j (d.length+1)∧0≤Dy u j (d.length+1)∧Dy u j (d.length+1)<CS d*18446744073709551616∧0≤CS (u.take j)∧CS (u.take j)<Dg j:=by
 have hl:=h.hul
 have hk:=h.hk
 have hb:=h.hb
 have hdl:=Ex hd
 have hj:=Er j
 have hB:CS u<Dg (j+(d.length+1)):=by
  have h1:CS d*Dg (j+1)≤Dg d.length*Dg (j+1):=Af (by omega) (by have:=Er (j+1);omega)
  rw[←JG,show d.length+(j+1)=j+(d.length+1) by omega]at h1
  omega
 obtain⟨e,_⟩:=Tm h.hud (by omega) hB
 have h0:=DG (h.hud.take j)
 have h1:=Ex (h.hud.take j)
 rw[A9,At (by omega)]at h1
 have hs:=Is h.hud j (d.length+1) (by omega)
 refine⟨e,hs.1,?_,h0,h1⟩
 refine Aj fun hc=>?_
 have h2:Dg j*(CS d*18446744073709551616)≤Dg j*Dy u j (d.length+1):=Ac (by omega) (by omega)
 rw[Em]at hb
 have e3:CS d*(18446744073709551616*Dg j)=Dg j*(CS d*18446744073709551616):=by grind
 omega
omit hD in
theorem lG{N:Nat}(hN:d.length=N+2)(ht:9223372036854775808≤d.getD (N+1) 0):Qv (Dy u j (d.length+1)) (CS d) (Dg N) (u.getD (j+(N+2)) 0*18446744073709551616+u.getD (j+(N+1)) 0) (d.getD (N+1) 0) (d.getD N 0) (u.getD (j+N) 0):=by
 have hl:=h.hul
 have hk:=h.hk
 obtain⟨e,w0,w1,_,_⟩:=lF hd h hn
 have x0:=h.hud.at (k:=j+N) (by omega)
 have y0:=hd.at (k:=N) (by omega)
 have y1:=hd.at (k:=N+1) (by omega)
 have hs:=Is h.hud j N (by omega)
 have hB:=Er N
 have e1:Dy u j (d.length+1)=Dy u j N+Dg N*(u.getD (j+N) 0+18446744073709551616*(u.getD (j+(N+1)) 0+18446744073709551616*u.getD (j+(N+2)) 0)):=by
  rw[hN,GX (by omega),GX (by omega),GX (by omega),Em (N+1),Em N]
  generalize Dy u j N=s
  generalize Dg N=B
  grind
 have e2:CS d=CS (d.take N)+Dg N*(d.getD N 0+18446744073709551616*d.getD (N+1) 0):=by
  have h1:=EN (l:=d) (k:=N) (by omega)
  have h2:=EN (l:=d) (k:=N+1) (by omega)
  rw[show N+1+1=d.length by omega,AI,Em,h1]at h2
  rw[h2]
  generalize CS (d.take N)=s
  generalize Dg N=B
  grind
 have t0:=DG (hd.take N)
 have t1:=Ex (hd.take N)
 rw[A9,At (by omega)]at t1
 refine⟨hB,?_,?_,?_,?_,⟨ht,y1.2⟩,y0,x0,w0,w1⟩
 ·rw[e1]
  generalize Dy u j N=s at*
  generalize Dg N=B at*
  grind
 ·rw[e1]
  generalize Dy u j N=s at*
  generalize Dg N=B at*
  grind
 ·rw[e2]
  generalize CS (d.take N)=s at*
  generalize Dg N=B at*
  grind
 rw[e2]
 generalize CS (d.take N)=s at*
 generalize Dg N=B at*
 grind
theorem fi:SD U0 d (H8 u j (d.length+1) (Dy u j (d.length+1) % CS d)) (q.set j (Dy u j (d.length+1)/CS d)) m j∧0≤Dy u j (d.length+1)/CS d∧Dy u j (d.length+1)/CS d<18446744073709551616:=by
 have hl:=h.hul
 have hql:=h.hql
 have hk:=h.hk
 obtain⟨e,w0,w1,l0,l1⟩:=lF hd h hn
 have hdl:=Ex hd
 have hj:=Er j
 have q0:0≤Dy u j (d.length+1)/CS d:=AY w0 (by omega)
 have q1:Dy u j (d.length+1)/CS d<18446744073709551616:=Bb hD (by rw[Ab];exact w1)
 have m0:=Ay (Dy u j (d.length+1)) (show CS d≠0 by omega)
 have m1:=AB (Dy u j (d.length+1)) hD
 have ew:=AR (Dy u j (d.length+1)) (CS d)
 have hwn:Dg d.length≤Dg (d.length+1):=H6 (by omega)
 have pm:=fD (u:=u) (j:=j) (n:=d.length+1) (v:=Dy u j (d.length+1) % CS d) (by omega) m0 (by omega)
 have hv:=h.hv
 refine⟨⟨by rw[Mr (by omega)];exact hl,by rw[Aa];exact hql,Td h.hud _ _ _,h.hqd.set ⟨q0,q1⟩,by omega,?_,?_⟩,q0,q1⟩
 ·rw[pm,Na (l:=q.set j _) (by rw[Aa];omega),NK (by omega),Hu (by omega),hv,Em]
  generalize Dy u j (d.length+1)/CS d=Q at*
  generalize Dy u j (d.length+1) % CS d=R at*
  generalize Dy u j (d.length+1)=W at*
  generalize CS (q.drop (j+1))=P at*
  generalize CS d=D at*
  generalize Dg j=B at*
  generalize CS u=M at*
  grind
 rw[pm,e]
 have:Dg j*(Dy u j (d.length+1) % CS d)≤Dg j*(CS d-1):=Ac (by omega) (by omega)
 generalize Dy u j (d.length+1) % CS d=R at*
 generalize Dy u j (d.length+1)=W at*
 generalize CS d=D at*
 generalize Dg j=B at*
 grind
end step
theorem fh{U0:Int}{d u q:List Int}{m:Nat}(hd:DJ d)(h:SD U0 d u q m 0)(hD:0<CS d):CS q=U0/CS d∧CS (u.take d.length)=U0 % CS d∧DJ (u.take d.length):=by
 have hv:=h.hv
 have hb:=h.hb
 have hl:=h.hul
 rw[B7,GC,AZ]at hv
 rw[GC,AZ]at hb
 have h0:=DG h.hud
 have hdl:=Ex hd
 obtain⟨e,hz⟩:=Tm (j:=0) (n:=d.length) h.hud (by omega) (by rw[Aq];omega)
 rw[Bi,GC,AK]at e
 have e2:CS (u.take d.length)=CS u:=by
  rw[e]
  show _=0+Dy u 0 d.length
  unfold Dy
  rw[B7];omega
 rw[e2,hv,BU]
 refine⟨?_,?_,h.hud.take _⟩
 ·rw[CF _ _ (by omega),Bv h0 hb];omega
 rw[CH,AV h0 hb]
theorem Rr{Y:Nat}(h:(CQ Y).length=1):(CQ Y).getD ((0:Int)).toNat 0=Y:=by
 have h1:=Do Y
 show(CQ Y).getD 0 0=Y
 match hl:CQ Y with
 |[]=>rw[hl]at h;simp at h
 |[x]=>rw[hl,Kv]at h1;exact h1
 |x::y::l=>rw[hl]at h;simp at h
theorem N9{D N:Nat}(hl:(CQ D).length=N+1):(D:Int)=CS ((CQ D).take N)+Dg N*(CQ D).getD N 0∧0≤CS ((CQ D).take N)∧CS ((CQ D).take N)<Dg N∧0≤(CQ D).getD N 0∧(CQ D).getD N 0<18446744073709551616:=by
 have h1:=EN (l:=CQ D) (k:=N) (by omega)
 rw[show N+1=(CQ D).length by omega,AI,Do]at h1
 have h2:=DG ((D9 D).take N)
 have h3:=Ex ((D9 D).take N)
 rw[A9,At (by omega)]at h3
 have h4:=(D9 D).at (k:=N) (by omega)
 exact⟨h1,h2,h3,h4.1,h4.2⟩
theorem Px{D N:Nat}(hl:(CQ D).length=N+1):1≤(CQ D).getD N 0:=by
 have h:=J9 D
 have h4:=(D9 D).at (k:=N) (by omega)
 rcases h with h|h
 ·rw[h]at hl;simp at hl
 rw[hl,Nat.add_sub_cancel]at h
 omega
theorem Zb{Y N:Nat}(hl:(CQ Y).length=N+1): ∃ S:Nat,S<64∧(S:Int)=64-(bl ((CQ Y).getD N 0).toNat:Int)∧(CQ (Y*2^S)).length=N+1∧9223372036854775808≤(CQ (Y*2^S)).getD N 0:=by
 obtain⟨e,l0,l1,t0,t1⟩:=N9 hl
 have tp:=Px hl
 obtain⟨w,hw⟩: ∃ w:Nat,(CQ Y).getD N 0=(w:Int):=⟨((CQ Y).getD N 0).toNat,by omega⟩
 rw[hw]at e t0 t1 tp⊢
 rw[Ar]
 have w0:w≠0:=by omega
 have hlog:w.log2<64:=(Nat.log2_lt w0).2 (by omega)
 have hbl:bl w=w.log2+1:=MY w0
 refine⟨63-w.log2,by omega,by omega,?_⟩
 obtain⟨S,hS⟩: ∃ S,S=63-w.log2:=⟨_,rfl⟩
 rw[←hS]
 have g1:2^w.log2≤w:=Nat.log2_self_le w0
 have g2:w<2^(w.log2+1):=Nat.lt_log2_self
 have k1:9223372036854775808≤w*2^S:=by
  have:=Au (2^S) g1
  rw[←Bd,show w.log2+S=63 by omega]at this
  exact this
 have k2:(w+1)*2^S≤18446744073709551616:=by
  have:=Au (2^S) (show w+1≤2^(w.log2+1)from g2)
  rw[←Bd,show w.log2+1+S=64 by omega]at this
  exact this
 have hp:1≤2^S:=CD
 have c1:(9223372036854775808:Int)≤(w:Int)*((2^S:Nat):Int):=by
  have h:=BX.2 k1
  rw[Ad]at h
  exact h
 have c2:((w:Int)+1)*((2^S:Nat):Int)≤18446744073709551616:=by
  have h:=BX.2 k2
  rw[Ad]at h
  exact h
 have c3:(1:Int)≤((2^S:Nat):Int):=by exact_mod_cast hp
 have hB:=Er N
 have eD:((Y*2^S:Nat):Int)=(Y:Int)*((2^S:Nat):Int):=Ad ..
 have d0:Dg N*9223372036854775808≤((Y*2^S:Nat):Int):=by
  rw[eD,e,AJ]
  have h1:=Ae l0 (show(0:Int)≤((2^S:Nat):Int) by omega)
  have h2:=Ac c1 (show 0≤Dg N by omega)
  rw[Aw]
  omega
 have d1:((Y*2^S:Nat):Int)<Dg N*18446744073709551616:=by
  rw[eD,e]
  have h1:(CS ((CQ Y).take N)+Dg N*(w:Int))*((2^S:Nat):Int)<(Dg N*((w:Int)+1))*((2^S:Nat):Int):=CK (by rw[Al];omega) (by omega)
  have h2:=Ac c2 (show 0≤Dg N by omega)
  rw[←Aw]at h2
  omega
 have len1:(CQ (Y*2^S)).length≤N+1:=FR (by rw[Em,Ab];exact d1)
 have len2:N+1≤(CQ (Y*2^S)).length:=by
  refine Aj fun hc=>?_
  have h1:=Ex (D9 (Y*2^S))
  rw[Do]at h1
  have h2:=H6 (show(CQ (Y*2^S)).length≤N by omega)
  omega
 have hlen:(CQ (Y*2^S)).length=N+1:=by omega
 refine⟨hlen,?_⟩
 obtain⟨e2,m0,m1,u0,u1⟩:=N9 hlen
 refine Aj fun hc=>?_
 have h1:Dg N*(CQ (Y*2^S)).getD N 0≤Dg N*9223372036854775807:=Ac (by omega) (by omega)
 omega
theorem eh(l:List Int)(c:Nat):CS (l++List.replicate c 0)=CS l:=by
 rw[G1,Ml,Int.mul_zero,Ba]
theorem ja{l:List Int}(h:DJ l)(c:Nat):DJ (l++List.replicate c 0):=fun z hz=>by
 rcases BD.1 hz with e|e
 ·exact h z e
 exact IE c z e
theorem fm{X Y:Nat}(h: ¬X<Y):(CQ Y).length≤(CQ X).length:=Fw (by omega)
theorem RJ{X S:Nat}(hS:S<64):(CQ (X*2^S)).length≤(CQ X).length+1:=by
 have h1:= @N8 X (2^S)
 have h2:(CQ (2^S)).length≤1:=by
  refine FR (k:=1) ?_
  have:(2:Nat)^S<2^64:=Nat.pow_lt_pow_right (by omega) hS
  show((2^S:Nat):Int)<18446744073709551616^1
  have h3:(2:Nat)^64=18446744073709551616:=by decide
  omega
 omega
theorem rk{X Y S N m:Nat}(hl:(CQ Y).length=N+1)(hm:(CQ X).length+1=m+(N+1))(hp:(CQ (Y*2^S)).length=N+1):((X*2^S:Nat):Int)<((Y*2^S:Nat):Int)*Dg m:=by
 obtain⟨e,l0,l1,t0,t1⟩:=N9 hl
 have tp:=Px hl
 have hX:=Ex (D9 X)
 rw[Do,show(CQ X).length=N+m by omega,JG]at hX
 have hB:=Er N
 have hM:=Er m
 have c3:(1:Int)≤((2^S:Nat):Int):=by exact_mod_cast (CD (n:=S))
 have k1:Dg N*1≤Dg N*(CQ Y).getD N 0:=Ac tp (by omega)
 have k2:Dg N≤(Y:Int):=by omega
 have k3:Dg N*Dg m≤(Y:Int)*Dg m:=Af k2 (by omega)
 have k4:(X:Int)*((2^S:Nat):Int)<(Y:Int)*Dg m*((2^S:Nat):Int):=CK (by omega) (by omega)
 rw[Ad,Ad]
 have e2:(Y:Int)*((2^S:Nat):Int)*Dg m=(Y:Int)*Dg m*((2^S:Nat):Int):=by grind
 rw[e2]
 exact k4
theorem rm{X Y S:Nat}(hY:0<Y):(((X*2^S:Nat):Int)/((Y*2^S:Nat):Int)).toNat=X/Y:=by
 rw[←Bo,Ar,Nat.mul_div_mul_right _ _ (Ax S)]
theorem rn{X Y S:Nat}(hY:0<Y):(((X*2^S:Nat):Int) % ((Y*2^S:Nat):Int))=((X % Y*2^S:Nat):Int):=by
 rw[←Cg,Nat.mul_mod_mul_right]
end Go.Bn
