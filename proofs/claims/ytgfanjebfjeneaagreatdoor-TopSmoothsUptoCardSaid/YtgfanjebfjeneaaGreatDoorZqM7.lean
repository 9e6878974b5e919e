/-
 Whole numbers of 64-bit words: products of two words, what is carried, a quotient of two words by one, a digit taken off.
-/
import Derived.Test.YtgfanjebfjeneaaGreatDoorZqM5
import Derived.Test.YtgfanjebfjeneaaGreatDoorZqM6
import Derived.Test.YtgfanjebfjeneaaGreatDoorZqM4
set_option linter.unusedVariables false
set_option linter.unusedSimpArgs false
namespace Go.Bn
open Go
theorem m64{x y:Int}(hx:0≤x∧x<18446744073709551616)(hy:0≤y∧y<18446744073709551616):
  (0≤(x % 4294967296)*(y % 4294967296)∧(x % 4294967296)*(y % 4294967296)≤18446744065119617025)∧
  (0≤(x/4294967296)*(y % 4294967296)∧(x/4294967296)*(y % 4294967296)≤18446744065119617025)∧
  (0≤(x % 4294967296)*(y/4294967296)∧(x % 4294967296)*(y/4294967296)≤18446744065119617025)∧
  (0≤(x/4294967296)*(y/4294967296)∧(x/4294967296)*(y/4294967296)≤18446744065119617025)∧
  x*y=(x/4294967296)*(y/4294967296)*18446744073709551616+((x/4294967296)*(y % 4294967296)+(x % 4294967296)*(y/4294967296))*4294967296+(x % 4294967296)*(y % 4294967296):=by
 refine⟨P0 (by omega) (by omega),P0 (by omega) (by omega),P0 (by omega) (by omega),P0 (by omega) (by omega),?_⟩
 have ex:x=4294967296*(x/4294967296)+x % 4294967296:=by omega
 have ey:y=4294967296*(y/4294967296)+y % 4294967296:=by omega
 generalize x/4294967296=a at*
 generalize x % 4294967296=b at*
 generalize y/4294967296=c at*
 generalize y % 4294967296=d at*
 subst ex
 subst ey
 grind
theorem vG{P A B C D:Int}(hD:0≤D)(e:P=A*18446744073709551616+(B+C)*4294967296+D):A+(B+D/4294967296)/4294967296+((B+D/4294967296) % 4294967296+C)/4294967296=P/18446744073709551616:=by omega
theorem pR{p c d:Int}(hp:0≤p∧p≤340282366920938463426481119284349108225)(hc:0≤c∧c<18446744073709551616)(hd:0≤d∧d<18446744073709551616):
  (0≤p/18446744073709551616+Kl (p % 18446744073709551616) c 0∧p/18446744073709551616+Kl (p % 18446744073709551616) c 0<18446744073709551616)∧
  (0≤Lv (p % 18446744073709551616) c 0∧Lv (p % 18446744073709551616) c 0<18446744073709551616)∧
  (0≤p/18446744073709551616+Kl (p % 18446744073709551616) c 0+Kl (Lv (p % 18446744073709551616) c 0) d 0∧p/18446744073709551616+Kl (p % 18446744073709551616) c 0+Kl (Lv (p % 18446744073709551616) c 0) d 0<18446744073709551616)∧
  p/18446744073709551616+Kl (p % 18446744073709551616) c 0+Kl (Lv (p % 18446744073709551616) c 0) d 0=(p+c+d)/18446744073709551616∧
  Lv (Lv (p % 18446744073709551616) c 0) d 0=(p+c+d) % 18446744073709551616:=by
 unfold Lv Kl
 omega
structure hZ(x l:List Int)(d m:Int)(k:Nat)(c:Int):Prop where
 hl:l.length=x.length+1
 hd:DJ l
 hk:k≤x.length
 hc:0≤c∧c<18446744073709551616
 hv:CS (l.take k)+Dg k*c=CS (x.take k)*d+m
theorem kJ{x:List Int}{d m:Int}(hm:0≤m∧m<18446744073709551616):hZ x (List.replicate (x.length+1) 0) d m 0 m where
 hl:=Am
 hd:=IE _
 hk:=A7 _
 hc:=hm
 hv:=by rw[Bi,Bi,GC];show(0:Int)+1*m=0*d+m;omega
theorem kI{x l:List Int}{d m c t:Int}{k:Nat}(hx:DJ x)(hd:0≤d∧d<18446744073709551616)(h:hZ x l d m k c)(hk:k<x.length)(ht:t=x.getD k 0*d+0+c):hZ x (l.set k (t % 18446744073709551616)) d m (k+1) (t/18446744073709551616):=by
 have gx:=hx.at hk
 have gp:=O3 gx hd
 have hc:=h.hc
 have hl:=h.hl
 refine⟨by rw[Aa];exact hl,h.hd.set ⟨by omega,by omega⟩,hk,⟨by omega,by omega⟩,?_⟩
 have hv:=h.hv
 rw[Gy (by omega),EN hk,Em]
 have e:=AR t 18446744073709551616
 generalize t/18446744073709551616=q at*
 generalize t % 18446744073709551616=r at*
 generalize CS (l.take k)=L at*
 generalize CS (x.take k)=X at*
 generalize x.getD k 0=y at*
 generalize Dg k=B at*
 grind
theorem kH{x l:List Int}{d m c:Int}(h:hZ x l d m x.length c):DJ (l.set x.length c)∧CS (l.set x.length c)=CS x*d+m:=by
 have hl:=h.hl
 have hv:=h.hv
 refine⟨h.hd.set h.hc,?_⟩
 have e:=Gy (l:=l) (v:=c) (show x.length<l.length by omega)
 rw[show x.length+1=(l.set x.length c).length by rw[Aa];omega,AI]at e
 rw[AI]at hv
 rw[e,hv]
theorem Lz(a y:Int):a=a/y*y+a % y:=by rw[Ab];exact(AR a y).symm
theorem nS{y:Nat}(h0:y≠0)(h1:y<18446744073709551616): ∃ S:Nat,S<64∧(S:Int)=64-(bl y:Int)∧9223372036854775808≤y*2^S∧y*2^S<18446744073709551616:=by
 have hlog:y.log2<64:=(Nat.log2_lt h0).2 h1
 have hbl:bl y=y.log2+1:=MY h0
 refine⟨63-y.log2,by omega,by omega,?_⟩
 obtain⟨S,hS⟩: ∃ S,S=63-y.log2:=⟨_,rfl⟩
 rw[←hS]
 have g1:2^y.log2≤y:=Nat.log2_self_le h0
 have g2:y<2^(y.log2+1):=Nat.lt_log2_self
 have hp:0<2^S:=Ax S
 constructor
 ·have:=Au (2^S) g1
  rw[←Bd,show y.log2+S=63 by omega]at this
  exact this
 have:=Nat.mul_lt_mul_of_pos_right g2 hp
 rw[←Bd,show y.log2+1+S=64 by omega]at this
 exact this
theorem vD{lo S:Nat}(hS:S<64):lo*2^S/18446744073709551616=lo/2^(64-S)∧lo*2^S=lo/2^(64-S)*18446744073709551616+lo*2^S % 18446744073709551616:=by
 have e:18446744073709551616=2^(64-S)*2^S:=by rw[←Bd,show 64-S+S=64 by omega]
 have h1:lo*2^S/18446744073709551616=lo/2^(64-S):=by rw[e,Nat.mul_div_mul_right _ _ (Ax S)]
 exact⟨h1,by rw[←h1];omega⟩
theorem uX{hi lo y S:Nat}(hS:S<64)(hlo:lo<18446744073709551616)(hy:hi<y)(hY:y*2^S<18446744073709551616):
  hi*2^S+lo/2^(64-S)<y*2^S∧Ej .or .u64 ((hi*2^S:Nat):Int) ((lo/2^(64-S):Nat):Int)=((hi*2^S+lo/2^(64-S):Nat):Int)∧
  (hi*18446744073709551616+lo)*2^S=(hi*2^S+lo/2^(64-S))*18446744073709551616+lo*2^S % 18446744073709551616:=by
 have hp:0<2^S:=Ax S
 obtain⟨e1,e2⟩:=vD (lo:=lo) hS
 have h1:(hi+1)*2^S≤y*2^S:=Au _ hy
 rw[AO,B5]at h1
 have h2:lo/2^(64-S)<2^S:=by
  rw[CC (Ax _),←Bd,show S+(64-S)=64 by omega]
  exact hlo
 refine⟨by omega,?_,?_⟩
 ·have h64:(2:Nat)^64=18446744073709551616:=by decide
  rw[KQ _ _ (by omega) (by omega),Z9 _ _ _ h2]
 obtain⟨b,hb⟩: ∃ b,b=lo*2^S % 18446744073709551616:=⟨_,rfl⟩
 rw[←hb]at e2⊢
 rw[AO,e2]
 generalize lo/2^(64-S)=a
 clear e1 e2 h1 h2 hb
 grind
theorem pz{hi lo y:Int}(h0:0≤hi)(hy:hi<y)(hl:0≤lo∧lo<18446744073709551616)(hy1:y<18446744073709551616): ∃ (S:Nat) (P Y T L:Int),S<64∧(S:Int)=64-(bl y.toNat:Int)∧1≤P∧Y=y*P∧(9223372036854775808≤Y∧Y<18446744073709551616)∧
  IntKind.u64.wrap (y*2^min ((S:Nat):Int).toNat IntKind.u64.bits)=Y∧
  Ej .or .u64 (IntKind.u64.wrap (hi*2^min ((S:Nat):Int).toNat IntKind.u64.bits)) (lo.fdiv (2^min ((64-S:Nat):Int).toNat IntKind.u64.bits))=T∧
  IntKind.u64.wrap (lo*2^min ((S:Nat):Int).toNat IntKind.u64.bits)=L∧(0≤T∧T<Y)∧(0≤L∧L<18446744073709551616)∧(hi*18446744073709551616+lo)*P=T*18446744073709551616+L∧
  ∀ v:Int,v.fdiv (2^min ((S:Nat):Int).toNat IntKind.u64.bits)=v/P:=by
 obtain⟨y,rfl⟩: ∃ n:Nat,y=n:=⟨y.toNat,by omega⟩
 obtain⟨hi,rfl⟩: ∃ n:Nat,hi=n:=⟨hi.toNat,by omega⟩
 obtain⟨lo,rfl⟩: ∃ n:Nat,lo=n:=⟨lo.toNat,by omega⟩
 rw[Ar]
 obtain⟨S,hS,hS2,n0,n1⟩:=nS (y:=y) (by omega) (by omega)
 obtain⟨ha,hb,hc⟩:=uX (hi:=hi) (lo:=lo) (y:=y) hS (by omega) (by omega) n1
 have eP:(2:Int)^S=((2^S:Nat):Int):=by rw[Ch];rfl
 have ePr:(2:Int)^(64-S)=((2^(64-S):Nat):Int):=by rw[Ch];rfl
 have hp:1≤2^S:=CD
 refine⟨S,((2^S:Nat):Int),((y*2^S:Nat):Int),((hi*2^S+lo/2^(64-S):Nat):Int),((lo*2^S % 18446744073709551616:Nat):Int),hS,hS2,by omega,Ad ..,⟨by omega,by omega⟩,?_,?_,?_,⟨by omega,by omega⟩,⟨by omega,by omega⟩,?_,?_⟩
 ·rw[fX hS,eP,←Ad];exact AV (Int.natCast_nonneg _) (BJ.2 n1)
 ·have hh:hi*2^S<18446744073709551616:=C8 (Nat.le_add_right _ _) (Nat.lt_trans ha n1)
  have e3:((hi*2^S:Nat):Int) % 18446744073709551616=((hi*2^S:Nat):Int):=AV (Int.natCast_nonneg _) (BJ.2 hh)
  rw[fX hS,gg (show 64-S≤64 by omega),eP,ePr,←Ad,←Bo,e3,←hb]
 ·rw[fX hS,eP,←Ad];rfl
 ·have:=congrArg (fun n:Nat=>(n:Int)) hc
  simp only[Ad,Bf]at this⊢
  exact this
 intro v
 rw[gg (show S≤64 by omega),eP]
theorem jb{T Y u:Int}(hY0:9223372036854775808≤Y)(hY1:Y<18446744073709551616)(hT0:0≤T)(hT:T<Y)(hu:0≤u∧u<4294967296):Vf (T*4294967296+u) Y 1 T (Y/4294967296) (Y % 4294967296) u:=
 ⟨by omega,by omega,by omega,by omega,by omega,by omega,by omega,hu,by omega,by omega⟩
theorem Jq{W D t top d2 u2 g r:Int}(h:Vf W D 1 t top d2 u2)(hW:W=t*4294967296+u2)(hD:D=top*4294967296+d2)(i:Si t top d2 u2 (W/D) g r)(hg:g≤4294967296)(hc:4294967296≤r∨g*d2≤r*4294967296+u2):g=W/D:=by
 have hD0:=QT h
 have i2:=i.hq
 have hq:=KU h
 have hd:=h.hd2
 have hu:=h.hu2
 have g0:0≤g:=by omega
 have hc2:g*d2≤r*4294967296+u2:=by
  rcases hc with hc|hc
  ·have:g*d2≤4294967296*4294967295:=Bc hg (by omega) hd.1 (by omega)
   omega
  exact hc
 have k:g*D≤W:=by
  have e:=i.e
  have e2:g*D=g*top*4294967296+g*d2:=by rw[hD];grind
  omega
 have:=(UA hD0).2 k
 omega
theorem OP{t u q Y:Int}(hY0:9223372036854775808≤Y)(hY1:Y<18446744073709551616)(hq:q=(t*4294967296+u)/Y):IntKind.u64.wrap (IntKind.u64.wrap (IntKind.u64.wrap (t*4294967296)+u) -IntKind.u64.wrap (q*Y))=(t*4294967296+u) % Y:=by
 rw[Nt,Nt,Nt,Nt]
 have e:=AR (t*4294967296+u) Y
 rw[←hq]at e
 have h0:=Ay (t*4294967296+u) (show Y≠0 by omega)
 have h1:=AB (t*4294967296+u) (show 0<Y by omega)
 rw[Ab]at e
 generalize (t*4294967296+u) % Y=v at*
 generalize q*Y=p at*
 omega
theorem Q1{hi lo y S T L Y q1 q0 V V2:Int}(hS:1≤S)(hy:0<y)(hY:Y=y*S)(e:(hi*18446744073709551616+lo)*S=T*18446744073709551616+L)(e1:T*4294967296+L/4294967296=q1*Y+V)(e0:V*4294967296+L % 4294967296=q0*Y+V2)(h0:0≤V2)(h1:V2<Y):
  q1*4294967296+q0=(hi*18446744073709551616+lo)/y∧V2/S=(hi*18446744073709551616+lo) % y:=by
 obtain⟨N,hN⟩: ∃ N,N=hi*18446744073709551616+lo:=⟨_,rfl⟩
 rw[←hN]at e⊢
 obtain⟨Q,hQ⟩: ∃ Q,Q=q1*4294967296+q0:=⟨_,rfl⟩
 rw[←hQ]
 have k1:N*S=Q*Y+V2:=by
  have eL:L=L/4294967296*4294967296+L % 4294967296:=by omega
  generalize L/4294967296=a at*
  generalize L % 4294967296=b at*
  rw[e,hQ,eL]
  grind
 have k2:V2=(N-Q*y)*S:=by
  rw[Int.sub_mul,k1,hY]
  have:Q*(y*S)=Q*y*S:=by grind
  omega
 obtain⟨R,hR⟩: ∃ R,R=N-Q*y:=⟨_,rfl⟩
 rw[←hR]at k2
 have r0:0≤R:=by
  refine Aj fun hc=>?_
  have:R*S≤ -1*S:=Af (by omega) (by omega)
  omega
 have r1:R<y:=by
  refine Aj fun hc=>?_
  have:y*S≤R*S:=Af (by omega) (by omega)
  omega
 have hNe:N=R+y*Q:=by rw[hR,Ab y Q];omega
 refine⟨?_,?_⟩
 ·rw[hNe,BI _ _ (by omega),Bv r0 r1];omega
 rw[k2,Int.mul_ediv_cancel _ (by omega),hNe,CG,AV r0 r1]
theorem vt{p r u:Int}(hu:0≤u∧u<18446744073709551616)(h:(CT .lss (p/18446744073709551616) r||(CT .eql (p/18446744073709551616) r&&CT .leq (p % 18446744073709551616) u))=false):r*18446744073709551616+u<p:=by
 have a:CT .lss (p/18446744073709551616) r=decide (p/18446744073709551616<r):=rfl
 have b:CT .eql (p/18446744073709551616) r=decide (p/18446744073709551616=r):=rfl
 have c:CT .leq (p % 18446744073709551616) u=decide (p % 18446744073709551616≤u):=rfl
 rw[a,b,c,AQ,Bool.and_eq_false_iff,decide_eq_false_iff_not,decide_eq_false_iff_not,decide_eq_false_iff_not]at h
 omega
theorem pZ{g d r u:Int}(h:r*18446744073709551616+u<g*d)(hr:0≤r)(hu:0≤u)(hg:0≤g):1≤g:=by
 refine Aj fun hc=>?_
 have e:g=0:=by omega
 rw[e,Int.zero_mul]at h
 omega
theorem nM{x y b:Int}(hx:0≤x∧x<18446744073709551616)(hy:0≤y∧y<18446744073709551616)(hb:0≤b∧b≤1):Pi x y b=(x-(y+b)) % 18446744073709551616:=by
 unfold Pi
 split<;>omega
theorem sl{x c b:Int}{p:Prop}[Decidable p](h:x<c+b↔p):Ph x c b=if p then 1 else 0:=by
 unfold Ph
 by_cases h9:x<c+b
 ·rw[if_pos h9,if_pos (h.1 h9)]
 rw[if_neg h9,if_neg (fun h8=>h9 (h.2 h8))]
theorem qw{u d:List Int}{j:Nat}{g:Int}(hu:DJ u)(hd:DJ d)(hn:j+d.length<u.length)(hg:0≤g∧g<18446744073709551616): -Dg (d.length+1)<Gc u d j g∧Gc u d j g<Dg (d.length+1):=by
 obtain⟨s0,s1⟩:=Is hu j (d.length+1) (by omega)
 have d0:=DG hd
 have d1:=Ex hd
 have h1:0≤g*CS d:=Ae hg.1 d0
 have h2:g*CS d≤18446744073709551615*CS d:=Af (by omega) d0
 have e:=Em d.length
 have hB:=Er d.length
 unfold Gc
 omega
theorem n5{u:List Int}(hu:DJ u){j n:Nat}{v:Int}(h:j+n≤u.length)(h0:0≤v)(h1:v<Dg n):Dy (H8 u j n v) j n=v:=by
 unfold Dy H8
 rw[List.drop_append_of_le_length (by rw[A9];omega),BK (by rw[A9];omega),Ck,CP (by rw[Hs];exact A5 _),AN (by rw[Hs];exact A5 _),M7 h0 h1]
theorem mi{u:List Int}(hu:DJ u){j n:Nat}{v w:Int}(h:j+n≤u.length):H8 (H8 u j n v) j n w=H8 u j n w:=by
 unfold H8
 have hl:(u.take j).length=j:=by rw[A9];omega
 rw[CP (by omega),AN (by omega)]
 congr 2
 rw[←Bg,List.drop_append,BK (by rw[As,hl,Hs];omega),Ck,As,hl,Hs,Cb,B7]
theorem kS{u d:List Int}{j:Nat}{g:Int}(hu:DJ u)(hd:DJ d)(hn:j+d.length<u.length)(hg:0≤g∧g<18446744073709551616)(hneg:Gc u d j g<0):
  bA (I9 u d j g) d j=I9 u d j (g-1)∧(Dy (I9 u d j g) j (d.length+1)+CS d)/Dg (d.length+1)=(if Gc u d j (g-1)<0 then 0 else 1):=by
 obtain⟨r0,r1⟩:=qw hu hd hn hg
 have d0:=DG hd
 have d1:=Ex hd
 have e:=Em d.length
 have hB:=Er d.length
 have hW:0<Dg (d.length+1):=Er _
 have ev:Gc u d j (g-1)=Gc u d j g+CS d:=by unfold Gc;rw[Int.sub_mul];omega
 have es:Dy (I9 u d j g) j (d.length+1)=Gc u d j g+Dg (d.length+1):=by
  unfold I9
  rw[if_pos hneg]
  exact n5 hu (by omega) (by omega) (by omega)
 have ed:Gc u d j g+Dg (d.length+1)+CS d=Gc u d j (g-1)+Dg (d.length+1):=by omega
 unfold bA
 rw[es,ed]
 have ep: ∀ w:Int,H8 (I9 u d j g) j (d.length+1) w=H8 u j (d.length+1) w:=fun w=>by unfold I9;exact mi hu (by omega)
 rw[ep]
 unfold I9
 generalize Gc u d j (g-1)=v at*
 generalize Dg (d.length+1)=W at*
 by_cases hv:v<0
 ·rw[if_pos hv,if_pos hv,AV (by omega) (by omega),Bv (by omega) (by omega)]
  exact⟨rfl,rfl⟩
 rw[if_neg hv,if_neg hv,Int.add_emod_right,AV (by omega) (by omega),Ba]
 refine⟨rfl,?_⟩
 have:=CF v 1 (show W≠0 by omega)
 rw[AK]at this
 rw[this,Bv (by omega) (by omega)]
 rfl
theorem eA{u d l:List Int}{j:Nat}{c:Int}(hu:DJ u)(h:SB u d l j d.length c)(hn:j+d.length<u.length):(l.getD (j+d.length) 0+c)/18446744073709551616=(Dy u j (d.length+1)+CS d)/Dg (d.length+1):=by
 obtain⟨c0,c1⟩:=h.hc
 have e0:=h.hr (j+d.length) (A5 _)
 have hs:=Is h.hd j d.length (by have:=h.hl;omega)
 have hB:=Er d.length
 have hv:=h.hv
 rw[AI]at hv
 have hx0:=hu.at (k:=j+d.length) (by omega)
 rw[GX hn,e0,Em]
 generalize u.getD (j+d.length) 0=x at*
 have hz:Dy u j d.length+Dg d.length*x+CS d=Dy l j d.length+Dg d.length*(x+c):=by
  generalize CS d=D at*
  generalize Dy u j d.length=U at*
  generalize Dy l j d.length=L at*
  generalize Dg d.length=B at*
  grind
 rw[hz]
 generalize Dy l j d.length=L at*
 generalize Dg d.length=B at*
 rw[Ab 18446744073709551616 B,←Int.ediv_ediv_of_nonneg (show 0≤B by omega),BI _ _ (by omega),Bv hs.1 hs.2,Int.zero_add]
theorem kg{u d:List Int}{j:Nat}{g:Int}(hD:0<CS d)(hq:Dy u j (d.length+1)/CS d≤g)(h: ¬Gc u d j g<0):g=Dy u j (d.length+1)/CS d∧I9 u d j g=H8 u j (d.length+1) (Dy u j (d.length+1) % CS d):=by
 have h1:g*CS d≤Dy u j (d.length+1):=by unfold Gc at h;omega
 have h2:g≤Dy u j (d.length+1)/CS d:=(CJ hD).2 h1
 have e:g=Dy u j (d.length+1)/CS d:=by omega
 refine⟨e,?_⟩
 unfold I9
 rw[if_neg h,Ba]
 congr 1
 unfold Gc
 have:=AR (Dy u j (d.length+1)) (CS d)
 rw[e,Ab]
 omega
theorem qt{u d:List Int}{j:Nat}{g:Int}(hD:0<CS d)(h:Gc u d j g<0):Dy u j (d.length+1)/CS d<g:=by
 refine Aj fun hc=>?_
 have h1:=(CJ hD).1 (show g≤Dy u j (d.length+1)/CS d by omega)
 unfold Gc at h
 omega
def xI(u:Value)(i m:Nat):SP:=⟨fun v _=> ∃ b n cap,u= .slice (some ⟨b,0,none⟩) n cap∧i+m≤n∧n≤cap∧cap≤maxLen∧0<m∧v= .slice (some ⟨b,i,none⟩) m (cap-i),fun _ _ _ _ h=>h⟩
section ops
variable {P:Program} {n:Nat} {ops:Array Oper} {Γ:D2} {ρ:DU} {δ:DK} {τ:List VR}
variable {d:Nat} {ty:TypeId} {pos:String} {af:Array Edge}
theorem Uw{α:Type}{mk:α→SP}{xs:List α}{x lo hi:Operand}{T E eb:Nat}{k1 k2:IntKind}{l h:Int}{sv:Value}{T':TypeId}(k:Nat)(ht:Iu P T=some (E,1,eb))(hx:Lk Γ δ ρ x (CW sv))(hlo:Lk Γ δ ρ lo (CW (.int k1 l)))(hhi:Lk Γ δ ρ hi (CW (.int k2 h)))(hk:nth τ k=some (.c (DC sv mk xs T')))(h0:0≤l)(h1:l<h)(h2:h≤xs.length):
  OpOK P n ops Γ ρ δ τ ⟨some d,.slice T x (some lo) (some hi) none,ty,pos,af,none⟩ (.rd k) (.c (xI sv l.toNat (h-l).toNat)) ET:=
 Mq hk fun a c ob _ hr hh=>by
  have hv:=(hr x _ (by simp[Op.operands]) hx).1
  have hz:=(hr lo _ (by simp[Op.operands]) hlo).1
  have hz2:=(hr hi _ (by simp[Op.operands]) hhi).1
  obtain⟨hu,i,hi',hs,_⟩:=Ll ht
  rcases hh.2 with ⟨g2,g3,_⟩|⟨b,cap,cur,g2,g3,g4,g5,g6,g7⟩
  ·omega
  refine⟨.slice (some ⟨b,l.toNat,none⟩) (h-l).toNat (cap-l.toNat),?_,b,xs.length,cap,g2,by omega,g4,g5,by omega,rfl⟩
  have q1:l≤h:=by omega
  have q2:h≤(cap:Int):=by omega
  have q3: ¬cap=l.toNat:=by omega
  have q4:h.toNat-l.toNat=(h-l).toNat:=by omega
  have q5:0≤h:=by omega
  have q6: ¬max h 0<l:=by omega
  simp[execOp,Instr.sliceAt,Instr.slice,run_underlying hu,g2,hv,hz,hz2,Instr.sliceBounds,Instr.sliceBound,asIntOf,sizeOf,typeInfo,hi',hs,q1,q2,q3,q4,q5,q6,h0,Gb]
theorem EV{x y:Operand}{T:TypeId}{E eb:Nat}{ki:IntKind}{z:Int}{u:Value}{i m:Nat}(ht:Iu P T=some (E,1,eb))(hx:Lk Γ δ ρ x (xI u i m))(hy:Lk Γ δ ρ y (CW (.int ki z)))(h0:0≤z)(h1:z<m):
  OpOK P n ops Γ ρ δ τ ⟨some d,.indexAddr T x y,ty,pos,af,none⟩ .no (.c (DW u (i+z.toNat))) ET:=
 DE fun a c _ hr=>by
  obtain⟨b,len,cap,g1,g2,g3,g4,g6,g5⟩:=hr x _ (by simp[Op.operands]) hx
  have hz:=(hr y _ (by simp[Op.operands]) hy).1
  have hrun:=K3 (P:=P) ht c.w (b:=b) (off:=i) (len:=m) (cap:=cap-i) (k:=ki) (z:=z) h0 h1
  rw[Bz]at hrun
  exact⟨.pointer (some ⟨b,i+z.toNat,none⟩),by simp only[execOp,g5,hz,Sem.run_bind,hrun,Result.andThen_ok,Sem.run_pure],b,.inr ⟨len,cap,g1⟩,rfl⟩
end ops
def yh{α:Type}(p:α→SP):SP:=⟨fun v c=> ∃ x,(p x).H v c,fun v c c' hle ⟨x,h⟩=>⟨x,(p x).st v c c' hle h⟩⟩
theorem UM{Γ:D2}{α:Type}{p:α→SP}{q:SP}(x:α)(h:Sb Γ q (p x)):Sb Γ q (yh p):=fun v c hf hv=>⟨x,h v c hf hv⟩
theorem St.over{X:Cx}{Γ:D2}{ρ:DU}{σ:List Res}{a:Act}{c:EW}(hs:St X Γ ρ σ a c){t:Nat}{p:SP}(h:p.H (vl a t) c):St X Γ ((t,p)::ρ) σ a c:=
 ⟨hs.size,hs.defers,hs.facts,fun t' q hq=>by
  by_cases e:t=t'
  ·subst e
   simp[DU.get]at hq
   subst hq
   exact h
  simp[DU.get,FO e]at hq
  exact hs.env t' q hq,hs.own⟩
theorem xL{X:Cx}{Γ:D2}{ρ:DU}{σ:List Res}{k:Code}{Q:Exit→Act→World→Prop}{α:Type}{p:α→SP}(t:Nat)(h:ρ.get t=some (yh p))(hk: ∀ x,J X Γ ((t,p x)::ρ) σ k Q):J X Γ ρ σ k Q:=fun a c hs=>by
 obtain⟨x,hx⟩:=hs.env t _ h
 exact hk x a c (hs.over hx)
theorem a1m{X S:Nat}(hS:S<64)(hX:0<X):((CQ (X*2^S)++ [0,0]).take ((CQ X).length+1)).length=(CQ X).length+1∧DJ ((CQ (X*2^S)++ [0,0]).take ((CQ X).length+1))∧CS ((CQ (X*2^S)++ [0,0]).take ((CQ X).length+1))=((X*2^S:Nat):Int):=by
 have h1:(CQ X).length≤(CQ (X*2^S)).length:=Fw (BG _ (Ax S))
 have h2:=RJ (X:=X) hS
 have hd0:=ja (D9 (X*2^S)) 2
 have hd:DJ (CQ (X*2^S)++ [0,0]):=hd0
 refine⟨by rw[A9,As];simp;omega,hd.take _,?_⟩
 have hL:=Do (X*2^S)
 rcases(show(CQ (X*2^S)).length=(CQ X).length∨(CQ (X*2^S)).length=(CQ X).length+1 by omega)with e|e
 ·rw[←e,List.take_append,AN (by omega),show(CQ (X*2^S)).length+1-(CQ (X*2^S)).length=1 by omega]
  show CS (CQ (X*2^S)++ [0])=_
  have:=eh (CQ (X*2^S)) 1
  rw[show List.replicate 1 (0:Int)=[0]from rfl]at this
  rw[this,hL]
 rw[←e,List.take_left',hL]
 rfl
theorem cu(X S:Nat):(CS (CQ X)*2^S).toNat=X*2^S:=by
 rw[Do]
 have e:(2:Int)^S=((2^S:Nat):Int):=by rw[Ch];rfl
 rw[e,←Ad,Ar]
theorem lI{X Y S m:Nat}{d u q:List Int}(h:SD ((X*2^S:Nat):Int) d u q m 0)(hY:0<Y)(hd:CS d=((Y*2^S:Nat):Int)):(CS u).toNat=X % Y*2^S:=by
 have hv:=h.hv
 have hb:=h.hb
 have h0:=DG h.hud
 rw[B7,GC,AZ]at hv
 rw[GC,AZ]at hb
 have e:((X*2^S:Nat):Int) % ((Y*2^S:Nat):Int)=CS u:=by
  rw[hv,hd,BU,CH]
  rw[hd]at hb
  exact AV h0 hb
 rw[←e,rn hY,Ar]
theorem wu{Γ:D2}{u:Value}{i i' m m':Nat}(h:i=i')(h2:m=m'):Sb Γ (xI u i m) (xI u i' m'):=by
 subst h
 subst h2
 exact fun _ _ _ h=>h
theorem Jd{x:Nat}(h:Kk (x:Int)):(CR x).length≤1000000000:=Hx (by have:=h.h;simpa using this)
theorem Pf{x y:Nat}(h:x≤y)(hy:Kk (y:Int)):Kk (x:Int):=⟨by have:=hy.h;simp at this⊢;omega⟩
theorem jC(x:Nat):MB (x:Int)=Gf [CW (.bool false),DP .u32 (CR x)]:=by
 have:decide ((x:Int)<0)=false:=by simp
 show Gf [CW (.bool (decide ((x:Int)<0))),DP .u32 (CR (x:Int).natAbs)]=_
 rw[this,Av]
theorem yl{x y:Nat}(hy:2<(CR y).length)(h:y≤x): ∃ a,bl x=a+62:=by
 have h1:18446744073709551616≤y:=Aj fun hc=>by
  have:=YS (a:=y) (by omega)
  omega
 have h2:=tb (t:=x) (k:=64) (by have:(2:Nat)^64=18446744073709551616:=(by decide);omega)
 exact⟨bl x-62,by omega⟩
theorem Yr{x:Nat}(h:(CR x).length≤1000000000):bl x≤32000000000:=by
 have h1:=iI x
 split at h1
 ·omega
 have h2:=(D8 x).at (k:=(CR x).length-1) (by omega)
 have h3:=sZ h2.1 h2.2
 omega
theorem aP{x y a:Nat}(hx:bl x=a+62)(hyx:y≤x):x/2^a<18446744073709551616∧y/2^a<18446744073709551616∧Yf (x:Int) (y:Int) ((x/2^a:Nat):Int) ((y/2^a:Nat):Int) ((2^a:Nat):Int)∧x/2^a≠0:=by
 have hp:0<2^a:=Ax a
 have h1:x<2^(a+62):=VA (by omega)
 have h0:2^a≤x:=Aj fun hc=>by
  have:=QI (t:=x) (k:=a) (by omega)
  omega
 have e62:(2:Nat)^62=4611686018427387904:=by decide
 have h2:x/2^a<4611686018427387904:=by
  rw[CC hp,←e62,AP,←Bd]
  exact h1
 have h3:y/2^a≤x/2^a:=Nat.div_le_div_right hyx
 have h4:x/2^a≠0:=by
  have:=Nat.div_pos h0 hp
  omega
 refine⟨by omega,by omega,⟨BX.2 hp,?_,?_,?_,?_,BX.2 hyx,Int.natCast_nonneg _,⟨Int.natCast_nonneg _,BX.2 h3⟩,BJ.2 h2⟩,h4⟩
 ·exact_mod_cast Nat.div_mul_le_self x (2^a)
 ·have:=Nat.lt_div_mul_add hp (a:=x)
  have e:(x/2^a+1)*2^a=x/2^a*2^a+2^a:=by rw[AO,B5]
  exact_mod_cast (show x<(x/2^a+1)*2^a by omega)
 ·exact_mod_cast Nat.div_mul_le_self y (2^a)
 have:=Nat.lt_div_mul_add hp (a:=y)
 have e:(y/2^a+1)*2^a=y/2^a*2^a+2^a:=by rw[AO,B5]
 exact_mod_cast (show y<(y/2^a+1)*2^a by omega)
structure GcS(x y:Nat)(s:Nu):Prop where
 a: -1073741824≤s.a∧s.a≤1073741824
 b: -1073741824≤s.b∧s.b≤1073741824
 c: -1073741824≤s.c∧s.c≤1073741824
 d: -1073741824≤s.d∧s.d≤1073741824
 s1:(s.b≤0∧0≤s.a)∨(0<s.b∧s.a≤0)
 s2:(s.d≤0∧0≤s.c)∨(0<s.d∧s.c≤0)
 u0:0≤s.a*x+s.b*y
 v0:0≤s.c*x+s.d*y
 vu:(s.c*x+s.d*y).toNat≤(s.a*x+s.b*y).toNat
 ux:(s.a*x+s.b*y).toNat≤x
 vy:(s.c*x+s.d*y).toNat<y
 g:Nat.gcd (s.a*x+s.b*y).toNat (s.c*x+s.d*y).toNat=Nat.gcd x y
theorem ym{X Y x y E:Int}{s:Nu}{g A B C D:Int}(h:Yf X Y x y E)(i:TA X Y x y E s g A B C D)(hx:x≠0):s.a*X+s.b*Y≤X:=by
 have hp:=i.ep
 have hq:=i.eq
 have ea:=i.ea
 have eb:=i.eb
 have ec:=i.ec
 have ed:=i.ed
 have ex:=i.ex
 have hg:=i.g1
 have u0:=i.u0
 have v0:=i.v0
 have D0:=i.D0.1
 have B0:=i.B0.1
 have e1:g*(D*A-B*C)=1:=by
  have:g*(D*A-B*C)*x=1*x:=by
   rw[hp,hq]at ex
   grind
  exact Int.eq_of_mul_eq_mul_right hx this
 have e2:D*(s.a*X+s.b*Y)+B*(s.c*X+s.d*Y)=X:=by
  have:D*(s.a*X+s.b*Y)+B*(s.c*X+s.d*Y)=g*(D*A-B*C)*X:=by
   rw[ea,eb,ec,ed]
   grind
  rw[this,e1,AK]
 have h1:=Af D0 u0
 have h2:=Ae B0 v0
 omega
theorem pV{x y a:Nat}{s:Nu}(hx:bl x=a+62)(hyx:y≤x)(hs:s=N6 (((y/2^a:Nat):Int).toNat+1) (MC ((x/2^a:Nat):Int) ((y/2^a:Nat):Int)))(hb:s.b≠0):GcS x y s:=by
 obtain⟨_,_,h,h0⟩:=aP hx hyx
 obtain⟨g,A,B,C,D,i⟩:=ba h (((y/2^a:Nat):Int).toNat+1) (Wj h)
 rw[←hs]at i
 have hux:=ym h i (by omega)
 have u0:=i.u0
 have v0:=i.v0
 have uv:=i.uv
 have hg:=i.gcd
 have pr:=i.pr
 have ea:=i.ea
 have eb:=i.eb
 have ec:=i.ec
 have ed:=i.ed
 have A0:=i.A0
 have B0:=i.B0
 have C0:=i.C0
 have D0:=i.D0
 have g1:=i.g1
 have hvy:s.c*x+s.d*y<y:=by
  rcases pr with pr|pr
  ·exact absurd (show s.b=0 by rw[pr];rfl) hb
  exact pr.2
 have hgg:Nat.gcd (s.a*x+s.b*y).toNat (s.c*x+s.d*y).toNat=Nat.gcd x y:=by
  have e1:(s.a*x+s.b*y).natAbs=(s.a*x+s.b*y).toNat:=by omega
  have e2:(s.c*x+s.d*y).natAbs=(s.c*x+s.d*y).toNat:=by omega
  rw[←e1,←e2]
  exact hg
 clear pr hg i h hs
 rcases g1 with g1|g1
 ·subst g1
  rw[AK]at ea eb ec ed
  exact⟨by omega,by omega,by omega,by omega,.inl (by omega),.inr (by omega),u0,v0,by omega,by omega,by omega,hgg⟩
 subst g1
 have eb':s.b=B:=by omega
 have ea':s.a= -A:=by omega
 have ec':s.c=C:=by omega
 have ed':s.d= -D:=by omega
 exact⟨by omega,by omega,by omega,by omega,.inr (by omega),.inl (by omega),u0,v0,by omega,by omega,by omega,hgg⟩
theorem N4(x y:Nat):Nat.gcd y (x % y)=Nat.gcd x y:=by
 rw[Nat.gcd_comm x y,Nat.gcd_rec y x,Nat.gcd_comm]
theorem jo{X Y:Nat}:Nat.gcd (max X Y) (min X Y)=Nat.gcd X Y:=by
 rcases Nat.le_total X Y with h|h
 ·rw[Cr h,At h,Nat.gcd_comm]
 rw[Cq h,Nat.min_eq_right h]
theorem vi{X Y:Nat}(hX:Kk (X:Int))(hY:Kk (Y:Int)):Kk ((max X Y:Nat):Int):=by
 rcases Nat.le_total X Y with h|h
 ·rw[Cr h];exact hY
 rw[Cq h];exact hX
def GB(n:Nat):Nat:=if h:n=0 then 0 else if n % 2=1 then 0 else GB (n/2)+1
termination_by n
decreasing_by omega
theorem V1{n:Nat}(h:n % 2=1):GB n=0:=by
 rw[GB]
 simp[h]
theorem cN{n:Nat}(h:n≠0):GB (2*n)=GB n+1:=by
 rw[GB,dif_neg (by omega),if_neg (by omega),Nat.mul_div_cancel_left _ (by omega)]
theorem Qp{n:Nat}(h:n≠0): ∀ k,GB (2^k*n)=k+GB n
 |0=>by rw[Nat.pow_zero,B5,Aq]
 |k+1=>by
  rw[Ca,AP (2^k) 2,Nat.mul_assoc,cN (Bk (by have:=Ax k;omega) h),Qp h k]
  omega
theorem Ns: ∀ {n:Nat},n≠0→ ∃ m,n=2^GB n*(2*m+1):=by
 intro n
 induction n using Nat.strongRecOn with
 |ind n ih=>
  intro h
  by_cases h1:n % 2=1
  ·refine⟨n/2,?_⟩
   rw[V1 h1,Nat.pow_zero,B5]
   omega
  obtain⟨m,hm⟩:=ih (n/2) (by omega) (by omega)
  refine⟨m,?_⟩
  have e:n=2*(n/2):=by omega
  have e2:GB n=GB (n/2)+1:=by have:=cN (n:=n/2) (by omega);rw[←e]at this;exact this
  rw[e2,Ca,AP _ 2,Nat.mul_assoc,←hm]
  exact e
theorem qA{k m:Nat}(h:2^k*(2*m+1)<2^32):(2^k*(2*m+1))&&&(2^32-2^k*(2*m+1))=2^k:=by
 have hp:=Ax k
 obtain⟨q,hq⟩: ∃ q,2^k*(2*m+1)=q+1:=⟨2^k*(2*m+1) -1,by have:=Nat.mul_pos hp (show 0<2*m+1 by omega);omega⟩
 have hk:k<32:=by
  refine(Nat.pow_lt_pow_iff_right (show 1<2 by omega)).1 (C8 ?_ h)
  exact BG _ (by omega)
 have eq1:q=2^k*(2*m)+(2^k-1):=by
  rw[Nat.mul_add,Bz]at hq
  omega
 refine Nat.eq_of_testBit_eq fun i=>?_
 rw[Nat.testBit_and,Nat.testBit_two_pow]
 conv=>lhs;rhs;rw[hq]
 rw[Nat.testBit_two_pow_sub_succ (by rw[hq]at h;omega),Nat.testBit_two_pow_mul,eq1,Nat.testBit_two_pow_mul_add _ (by omega)]
 by_cases h1:i<k
 ·have e1:decide (k≤i)=false:=by simp;omega
  have e2:decide (k=i)=false:=by simp;omega
  rw[e1,e2];simp
 by_cases h2:i=k
 ·subst h2
  have e1:(2*m+1).testBit 0=true:=by simp
  have e2:(2*m).testBit 0=false:=by simp
  rw[Cb,if_neg h1,e1,e2]
  simp
  omega
 have e2:decide (k=i)=false:=by simp;omega
 obtain⟨j,hj⟩: ∃ j,i-k=j+1:=⟨i-k-1,by omega⟩
 have e3:(2*m+1).testBit (j+1)=m.testBit j:=by rw[Nat.testBit_succ];congr 1;omega
 have e4:(2*m).testBit (j+1)=m.testBit j:=by rw[Nat.testBit_succ];congr 1;omega
 rw[if_neg h1,hj,e2,e3,e4]
 cases m.testBit j<;>simp
theorem uU: ∀ k:Nat,k<32→uT.getD ((2^k*125613361) % 4294967296/134217728) 0=(k:Int)∧(2^k*125613361) % 4294967296/134217728<32:=by decide
theorem wQ{z:Int}(h0:0<z)(h1:z<4294967296):IntKind.u32.wrap (-z)=4294967296-z:=by rw[Ls];omega
theorem ZZ{z:Int}(h0:0<z)(h1:z<4294967296):Ej .and .u32 z (4294967296-z)=((2^GB z.toNat:Nat):Int)∧GB z.toNat<32:=by
 obtain⟨n,rfl⟩: ∃ n:Nat,z=n:=⟨z.toNat,by omega⟩
 rw[Ar]
 have e32:(2:Nat)^32=4294967296:=by decide
 obtain⟨m,hm⟩:=Ns (n:=n) (by omega)
 have hk:GB n<32:=by
  refine(Nat.pow_lt_pow_iff_right (show 1<2 by omega)).1 (C8 ?_ (show n<2^32 by omega))
  have:=BG (2^GB n) (show 0<2*m+1 by omega)
  omega
 have hl:=qA (k:=GB n) (m:=m) (by rw[←hm];omega)
 rw[←hm,e32]at hl
 have e1:(BitVec.ofInt 32 (n:Int)).toNat=n:=by simp[BitVec.toNat_ofInt];omega
 have e2:(BitVec.ofInt 32 (4294967296-(n:Int))).toNat=4294967296-n:=by simp[BitVec.toNat_ofInt];omega
 have e3:Ej .and .u32 (n:Int) (4294967296-(n:Int))=IntKind.u32.wrap (((BitVec.ofInt 32 (n:Int))&&&(BitVec.ofInt 32 (4294967296-(n:Int)))).toNat:Int):=rfl
 have hp:2^GB n≤n:=by
  have:=BG (2^GB n) (show 0<2*m+1 by omega)
  omega
 refine⟨?_,hk⟩
 rw[e3,BitVec.toNat_and,e1,e2,hl,Ls]
 omega
theorem pk(k:Nat):IntKind.u32.wrap (((2^k:Nat):Int)*125613361)=((2^k*125613361 % 4294967296:Nat):Int):=by rw[Ls];omega
theorem a07(n:Nat):((n:Nat):Int).fdiv (2^min (27:Int).toNat IntKind.u32.bits)=((n/134217728:Nat):Int):=by
 have:(2:Int)^min (27:Int).toNat IntKind.u32.bits=((134217728:Nat):Int):=by decide
 rw[this,Bw _ (by omega),←Bo]
theorem wI{Γ:D2}{i:Nat}(hi:i<32):Sb Γ (DW ZD i) (Gf [CW (.int .u8 (uT.getD i 0))]):=fun v c hf hv=>by
 obtain⟨b,hb,hv⟩:=hv
 have hb1:b=wH:=by
  rcases hb with hb|⟨_,_,hb⟩
  ·unfold ZD at hb;cases hb;rfl
  unfold ZD at hb;cases hb
 subst hb1
 obtain⟨h1,cur,T,fz,h2,h3⟩:=hf.2 ZD a0v (by unfold Gl;simp)
 refine⟨wH,i,cur,T,fz,hv,h1,h2,fun j p hj=>?_⟩
 have hj0:j=0:=by
  have:=Ho hj
  simpa using this
 subst hj0
 simp only[nth,Ah]at hj
 subst hj
 have hl:i<uT.length:=by
  have:uT.length=32:=rfl
  omega
 exact⟨_,h3 i (uT.getD i 0) (by rw[List.getD,Ag hl];rfl),rfl,rfl,rfl⟩
theorem sO{n k:Nat}(hk:k<(CR n).length)(hz:CX ((CR n).take k)=0)(hw:(CR n).getD k 0≠0):GB n=32*k+GB ((CR n).getD k 0).toNat∧GB ((CR n).getD k 0).toNat<32:=by
 have h1:=L0 hk
 rw[Dt,hz,Int.zero_add]at h1
 have h2:=(D8 n).at hk
 obtain⟨w,hw2⟩: ∃ w:Nat,(CR n).getD k 0=w:=⟨((CR n).getD k 0).toNat,by omega⟩
 rw[hw2]at h1 h2 hw⊢
 have h3:=DR ((D8 n).drop (k+1))
 obtain⟨r,hr⟩: ∃ r:Nat,CX ((CR n).drop (k+1))=r:=⟨(CX ((CR n).drop (k+1))).toNat,by omega⟩
 rw[hr]at h1
 rw[Ar]
 have hn:n=2^(32*k)*(w+4294967296*r):=by
  have e:DQ k=((2^(32*k):Nat):Int):=by
   have:(2:Nat)^32=4294967296:=by decide
   rw[Nat.pow_mul,this,Ch]
   rfl
  rw[e,show(w:Int)+4294967296*r=((w+4294967296*r:Nat):Int) by omega,←Ad]at h1
  exact Int.ofNat_inj.1 h1
 obtain⟨m,hm⟩:=Ns (n:=w) (by omega)
 have ht:GB w<32:=by
  have h5:=(ZZ (z:=(w:Int)) (by omega) (by omega)).2
  rwa [Ar]at h5
 refine⟨?_,ht⟩
 have e4:w+4294967296*r=2^GB w*(2*(m+2^(31-GB w)*r)+1):=by
  have e5:2^GB w*(2*(2^(31-GB w)*r))=4294967296*r:=by
   rw[←Nat.mul_assoc,←Nat.mul_assoc,AP (2^GB w) 2,←Nat.pow_succ',←Bd,show GB w+1+(31-GB w)=32 by omega]
  have e6:2^GB w*(2*(m+2^(31-GB w)*r)+1)=2^GB w*(2*m+1)+2^GB w*(2*(2^(31-GB w)*r)):=by grind
  rw[e6,e5,←hm]
 have e7:GB (2*(m+2^(31-GB w)*r)+1)=0:=V1 (by omega)
 rw[hn,Qp (by omega),e4,Qp (by omega),e7]
 rfl
theorem sQ{n k:Nat}(hk:k<(CR n).length)(hz:CX ((CR n).take k)=0)(hw:(CR n).getD k 0=0):CX ((CR n).take (k+1))=0:=by
 rw[F4 hk,hz,hw];simp
theorem sP{n k:Nat}(hk:k=(CR n).length)(hz:CX ((CR n).take k)=0):GB n=0:=by
 rw[hk,AI,Dt]at hz
 rw[GB]
 simp
 omega
theorem ZJ{n:Nat}(h:(CR n).length≤1000000000):GB n<32000000000∧(n≠0→GB n<bl n):=by
 by_cases hn:n=0
 ·subst hn;exact⟨by rw[GB];simp,fun h=>absurd rfl h⟩
 obtain⟨m,hm⟩:=Ns hn
 have h2:2^GB n≤n:=by
  have:=BG (2^GB n) (show 0<2*m+1 by omega)
  omega
 have h3:=tb h2
 have h4:=Yr h
 exact⟨by omega,fun _=>h3⟩
theorem kp:CR 1=[1]:=by
 rw[Jk (by omega)]
 have:1/4294967296=0:=by decide
 rw[this,Fg];rfl
abbrev H5(q:Rat):List SP:=[CW (.bool (decide (q.num<0))),DP .u32 (CR q.num.natAbs),CW (.bool false),DP .u32 (CR q.den)]
abbrev JL(q:Rat):SP:=Gf (H5 q)
theorem OZ(b:Bool){A B:Nat}(hB:B≠0):(mkRat (Ds b A) B).num=Ds b (A/Nat.gcd A B)∧(mkRat (Ds b A) B).den=B/Nat.gcd A B:=by
 rw[←Rat.normalize_eq_mkRat hB,Rat.normalize_eq]
 have e:=KH b A
 refine⟨?_,by show B/(Ds b A).natAbs.gcd B=_;rw[e]⟩
 show Ds b A/(((Ds b A).natAbs.gcd B:Nat):Int)=_
 rw[e]
 unfold Ds
 split
 ·rw[Int.neg_ediv_of_dvd (Cv.2 (BO A B)),Bo]
 rw[Bo]
theorem VZ{A B t:Nat}(hA:A≠0)(hB:B≠0)(ht:t=min (GB A) (GB B)):A/Nat.gcd A B=A/2^t/Nat.gcd (A/2^t) (B/2^t)∧B/Nat.gcd A B=B/2^t/Nat.gcd (A/2^t) (B/2^t):=by
 have hd: ∀ n,n≠0→t≤GB n→2^t*(n/2^t)=n:=fun n hn htn=>by
  refine Nat.mul_div_cancel' ?_
  obtain⟨m,hm⟩:=Ns hn
  rw[hm]
  exact Nat.dvd_trans (Nat.pow_dvd_pow 2 htn) (Nat.dvd_mul_right _ _)
 have h1:=hd A hA (by omega)
 have h2:=hd B hB (by omega)
 have hp:=Ax t
 have hg:Nat.gcd A B=2^t*Nat.gcd (A/2^t) (B/2^t):=by
  rw[←Nat.gcd_mul_left,h1,h2]
 rw[hg]
 exact⟨by rw[←Nat.div_div_eq_div_mul],by rw[←Nat.div_div_eq_div_mul]⟩
theorem n9{n t:Nat}(hn:n≠0)(ht:t≤GB n):n/2^t≠0∧GB (n/2^t)=GB n-t:=by
 obtain⟨m,hm⟩:=Ns hn
 have e:n/2^t=2^(GB n-t)*(2*m+1):=by
  conv=>lhs;rw[hm]
  rw[show 2^GB n=2^t*2^(GB n-t) by rw[←Bd];congr 1;omega,Nat.mul_assoc,Nat.mul_div_cancel_left _ (Ax t)]
 rw[e]
 exact⟨Bk (by have:=Ax (GB n-t);omega) (by omega),by rw[Qp (by omega),V1 (n:=2*m+1) (by omega)];rfl⟩
theorem vh{A B t:Nat}(hA:A≠0)(hB:B≠0)(ht:t=min (GB A) (GB B))(h:(GB (B/2^t):Int)=(bl (B/2^t):Int) -1):Nat.gcd (A/2^t) (B/2^t)=1:=by
 obtain⟨a1,a2⟩:=n9 hA (show t≤GB A by omega)
 obtain⟨b1,b2⟩:=n9 hB (show t≤GB B by omega)
 obtain⟨m,hm⟩:=Ns b1
 obtain⟨k,hk⟩:=Ns a1
 have hpow:B/2^t=2^GB (B/2^t):=by
  have h1:B/2^t<2^(GB (B/2^t)+1):=VA (by omega)
  rw[Ca]at h1
  have h3:2*m+1<2:=by
   refine Nat.lt_of_mul_lt_mul_left (a:=2^GB (B/2^t)) ?_
   omega
  have h4:m=0:=by omega
  rw[h4]at hm
  simpa using hm
 rw[hpow]
 rcases Nat.le_total (GB A) (GB B)with hl|hl
 ·have e:GB (A/2^t)=0:=by omega
  rw[e,Nat.pow_zero,B5]at hk
  refine Nat.Coprime.pow_right _ ?_
  have:Nat.gcd (A/2^t) 2=1:=by
   rw[Nat.gcd_comm,Nat.gcd_rec,hk]
   have:(2*k+1) % 2=1:=by omega
   rw[this]
   rfl
  exact this
 have e:GB (B/2^t)=0:=by omega
 rw[e,Nat.pow_zero,Nat.gcd_one_right]
theorem ar{g:Nat}:GS g 1≠0↔g≠1:=by
 unfold GS
 split
 ·omega
 split<;>omega
theorem cC{A g:Nat}(h:Kk (A:Int)):Kk ((A/g:Nat):Int):=Pf (Co A g) h
theorem kD: ∀ {l:List Int},DJ l→l.getD 0 0=CS l % 18446744073709551616
 |[],_=>rfl
 |x::l,h=>by
  have:=h.head
  rw[CS]
  show x=_
  omega
theorem sJ{X n:Nat}:LR (CQ X) (n/64) (n % 64) 0=((X/2^n % 18446744073709551616:Nat):Int):=by
 by_cases hw:n/64<(CQ X).length
 ·have h1:=Xg (D9 X) hw
  have h2:=kD (Tg (CQ X) (n/64) (n % 64))
  have h3:(J7 (CQ X) (n/64) (n % 64)).getD 0 0=LR (CQ X) (n/64) (n % 64) 0:=by
   unfold J7
   rw[List.getD_eq_getElem?_getD,AC,Ci (by omega)]
   rfl
  rw[←h3,h2,h1,Do]
  have e:(2:Int)^n=((2^n:Nat):Int):=by rw[Ch];rfl
  rw[e,←Bo]
  omega
 have h0:=X9 (x:=X) (n:=n) (by omega)
 rw[h0]
 unfold LR
 have z: ∀ i,(CQ X).length≤i→(CQ X).getD i 0=0:=fun i hi=>by rw[List.getD_eq_getElem?_getD,AT hi];rfl
 rw[z _ (by omega),z _ (by omega)]
 simp
structure Dn(X Y a b c d s:Int):Prop where
 a0:0≤a
 b1:1≤b
 c1:1≤c
 ab:a≤b
 cd:c≤d
 q:d≤ -s*(d*Y-c*X)
 p:b+d≤ -s*(a*X-b*Y) - -s*(d*Y-c*X)
 det: -s*(a*d-b*c)=1
 s1:s=1∨s= -1
structure wX(X Y a b c d u v x y s:Int):Prop where
 a0:0≤a
 b0:0≤b
 c0:0≤c
 d0:0≤d
 u0:0≤u
 v1:1≤v
 uv:u≤v
 y0:0≤y
 yx:y≤x
 e1:x*v+y*d=X
 e2:x*u+y*c=Y
 sx:x=s*(c*X-d*Y)
 sy:y=s*(v*Y-u*X)
 det:s*(c*v-d*u)=1
 s1:s=1∨s= -1
 h:(d=0∧c=1∧u=0∧v=1∧b=0)∨(1≤d∧c≤d∧1≤u)
 dn:b=0∨Dn X Y a b c d s
theorem nH{X Y:Int}(h0:0≤Y)(h1:Y≤X):wX X Y 0 0 1 0 0 1 X Y 1:=
 ⟨by omega,by omega,by omega,by omega,by omega,by omega,by omega,h0,h1,by omega,by omega,by omega,by omega,by omega,.inl rfl,.inl ⟨rfl,rfl,rfl,rfl,rfl⟩,.inl rfl⟩
theorem si{X Y a b c d u v x y s:Int}(h:wX X Y a b c d u v x y s)(hy:v≤y)(hX:X<18446744073709551616):1≤y∧d+v≤X∧0≤x-y∧x≤X∧c≤X∧u≤X:=by
 have v1:=h.v1
 have yx:=h.yx
 have e1:=h.e1
 have d0:=h.d0
 have uv:=h.uv
 have k1:1*v≤x*v:=Af (by omega) (by omega)
 have k2:x*1≤x*v:=Ac v1 (by omega)
 have k3:1*d≤y*d:=Af (by omega) d0
 have k4:0≤y*d:=Ae (by omega) d0
 have hc:c≤X:=by
  rcases h.h with ⟨_,h2,_⟩|⟨_,h2,_⟩
  ·omega
  omega
 exact⟨by omega,by omega,by omega,by omega,hc,by omega⟩
theorem j7(s u d q v c:Int): -s*(u*(d+q*v) -v*(c+q*u))=s*(c*v-d*u):=by grind
theorem ss(s u v X Y:Int):s*(v*Y-u*X)= -s*(u*X-v*Y):=by grind
theorem su(s u d q v c X Y:Int):s*(c*X-d*Y) -s*(v*Y-u*X)*q= -s*((d+q*v)*Y-(c+q*u)*X):=by grind
theorem nG{X Y a b c d u v x y s q:Int}(h:wX X Y a b c d u v x y s)(hy:v≤y)(hd:d+v≤x-y)(hq:q=x/y):wX X Y c d u v (c+q*u) (d+q*v) y (x % y) (-s)∧1≤q∧0≤q*u∧0≤q*v∧d+q*v≤X∧c+q*u≤X:=by
 have v1:=h.v1
 have u0:=h.u0
 have c0:=h.c0
 have d0:=h.d0
 have uv:=h.uv
 have y1:1≤y:=by omega
 have q1:1≤q:=by rw[hq];exact(CJ (by omega)).2 (by omega)
 have em:=AR x y
 rw[←hq]at em
 have m0:=Ay x (show y≠0 by omega)
 have m1:=AB x (show 0<y by omega)
 have qu:0≤q*u:=Ae (by omega) u0
 have qu1:1*u≤q*u:=Af q1 u0
 have qv:1*v≤q*v:=Af q1 (by omega)
 have qq:q*u≤q*v:=Ac uv (by omega)
 have hx:x=y*q+x % y:=em.symm
 generalize x % y=z at*
 have f1:y*(d+q*v)+z*v=X:=by
  have e1:=h.e1
  rw[hx]at e1
  rw[←e1]
  grind
 have f2:y*(c+q*u)+z*u=Y:=by
  have e2:=h.e2
  rw[hx]at e2
  rw[←e2]
  grind
 have hsy:=h.sy
 have hsx:=h.sx
 have hdt:=h.det
 have hz:z= -s*((d+q*v)*Y-(c+q*u)*X):=by
  rw[←su,←hsx,←hsy]
  omega
 have hdX:d+q*v≤X:=by
  have k1:1*(d+q*v)≤y*(d+q*v):=Af y1 (by omega)
  have k2:0≤z*v:=Ae m0 (by omega)
  omega
 have huv:c+q*u≤d+q*v:=by
  rcases h.h with ⟨g1,g2,g3,g4,_⟩|⟨_,g2,_⟩
  ·rw[g3,g4,g1,g2];omega
  omega
 refine⟨⟨c0,d0,u0,by omega,by omega,by omega,huv,m0,by omega,f1,f2,?_,?_,?_,?_,?_,?_⟩,q1,qu,by omega,hdX,by omega⟩
 ·rw[hsy];exact ss s u v X Y
 ·exact hz
 ·rw[←hdt];exact j7 s u d q v c
 ·rcases h.s1 with e|e<;>omega
 ·right
  refine⟨v1,uv,?_⟩
  rcases h.h with ⟨g1,g2,g3,g4,_⟩|⟨_,_,g3⟩
  ·rw[g2,g3];omega
  omega
 rcases h.h with ⟨g1,_⟩|⟨g1,g2,g3⟩
 ·exact .inl g1
 right
 refine⟨c0,g1,g3,g2,uv,?_,?_,?_,by rcases h.s1 with e|e<;>omega⟩
 ·rw[Int.neg_neg,←hsy];exact hy
 ·rw[Int.neg_neg,←hsy,←hsx];exact hd
 rw[Int.neg_neg];exact hdt
theorem uY{X Y:Nat}{e:Nat}{a b c d s:Int}(h:Dn ((X/2^e:Nat):Int) ((Y/2^e:Nat):Int) a b c d s):
  0≤ -s*(d*Y-c*X)∧ -s*(d*Y-c*X)< -s*(a*X-b*Y)∧(X:Int)=d*(-s*(a*X-b*Y))+b*(-s*(d*Y-c*X))∧(Y:Int)=c*(-s*(a*X-b*Y))+a*(-s*(d*Y-c*X)):=by
 have hdet:=h.det
 refine⟨?_,?_,?_,?_⟩
 rotate_left 2
 ·have:d*(-s*(a*X-b*Y))+b*(-s*(d*Y-c*X))=(-s*(a*d-b*c))*X:=by grind
  rw[this,hdet];omega
 ·have:c*(-s*(a*X-b*Y))+a*(-s*(d*Y-c*X))=(-s*(a*d-b*c))*Y:=by grind
  rw[this,hdet];omega
 all_goals
  obtain⟨E,hE⟩: ∃ E:Nat,E=2^e:=⟨_,rfl⟩
  have hE1:1≤E:=by rw[hE];exact CD
  rw[←hE]at h
  have hX:(X:Int)=((X/E:Nat):Int)*E+((X % E:Nat):Int):=by
   rw[←Ad,←Bf,AP,Cm]
  have hY:(Y:Int)=((Y/E:Nat):Int)*E+((Y % E:Nat):Int):=by
   rw[←Ad,←Bf,AP,Cm]
  have hxl:((X % E:Nat):Int)+1≤E:=by have:=Ap X hE1;omega
  have hyl:((Y % E:Nat):Int)+1≤E:=by have:=Ap Y hE1;omega
  have hx0:(0:Int)≤((X % E:Nat):Int):=by omega
  have hy0:(0:Int)≤((Y % E:Nat):Int):=by omega
  generalize ((X/E:Nat):Int)=x at*
  generalize ((Y/E:Nat):Int)=y at*
  generalize ((X % E:Nat):Int)=i at*
  generalize ((Y % E:Nat):Int)=j at*
  have hE2:(1:Int)≤(E:Int):=by omega
  generalize (E:Int)=F at*
  obtain⟨a0,b1,c1,ab,cd,hq,hp,_,hs⟩:=h
  rw[hX,hY]
  have m1:0≤a*i:=Ae a0 hx0
  have m2:0≤b*j:=Ae (by omega) hy0
  have m3:0≤c*i:=Ae (by omega) hx0
  have m4:0≤d*j:=Ae (by omega) hy0
  have n1:a*(i+1)≤a*F:=Ac hxl a0
  have n2:b*(j+1)≤b*F:=Ac hyl (by omega)
  have n3:c*(i+1)≤c*F:=Ac hxl (by omega)
  have n4:d*(j+1)≤d*F:=Ac hyl (by omega)
  rw[Al,AZ]at n1 n2 n3 n4
  have o1:a*F≤b*F:=Af ab (by omega)
  have o2:c*F≤d*F:=Af cd (by omega)
  rcases hs with hs|hs
  ·subst hs
   have hq':d*F≤(c*x-d*y)*F:=Af (by omega) (by omega)
   have hp':(b+d)*F≤((b*y-a*x) -(c*x-d*y))*F:=Af (by omega) (by omega)
   have z1: -1*(d*(y*F+j) -c*(x*F+i))=(c*x-d*y)*F+c*i-d*j:=by grind
   have z2: -1*(a*(x*F+i) -b*(y*F+j))=(b*y-a*x)*F+b*j-a*i:=by grind
   rw[Int.sub_mul (b*y-a*x),AJ]at hp'
   first|(rw[z1];omega)|(rw[z1,z2];omega)
  subst hs
  have hq':d*F≤(d*y-c*x)*F:=Af (by omega) (by omega)
  have hp':(b+d)*F≤((a*x-b*y) -(d*y-c*x))*F:=Af (by omega) (by omega)
  have z1: - -1*(d*(y*F+j) -c*(x*F+i))=(d*y-c*x)*F+d*j-c*i:=by grind
  have z2: - -1*(a*(x*F+i) -b*(y*F+j))=(a*x-b*y)*F+a*i-b*j:=by grind
  rw[Int.sub_mul (a*x-b*y),AJ]at hp'
  first|(rw[z1];omega)|(rw[z1,z2];omega)
theorem pW{X Y X' Y':Nat}{a b c d p q r t:Int}(h1:(X:Int)=d*X'+b*Y')(h2:(Y:Int)=c*X'+a*Y')(h3:(X':Int)=p*X+q*Y)(h4:(Y':Int)=r*X+t*Y):Nat.gcd X' Y'=Nat.gcd X Y:=by
 have k: ∀ {A B C D:Nat} {m n k l:Int},(A:Int)=m*C+n*D→(B:Int)=k*C+l*D→Nat.gcd C D∣Nat.gcd A B:=fun{A B C D m n k l} e1 e2=>by
  have g1:((Nat.gcd C D:Nat):Int)∣(C:Int):=Cv.2 (BO C D)
  have g2:((Nat.gcd C D:Nat):Int)∣(D:Int):=Cv.2 (BP C D)
  refine Nat.dvd_gcd (Cv.1 ?_) (Cv.1 ?_)
  ·rw[e1];exact Int.dvd_add (CI g1) (CI g2)
  rw[e2];exact Int.dvd_add (CI g1) (CI g2)
 exact Nat.dvd_antisymm (k h1 h2) (k h3 h4)
theorem uZ{X Y e:Nat}{a b c d s:Int}(h:Dn ((X/2^e:Nat):Int) ((Y/2^e:Nat):Int) a b c d s): ∃ X' Y':Nat,(X':Int)= -s*(a*X-b*Y)∧(Y':Int)= -s*(d*Y-c*X)∧Y'<X'∧X'≤Y∧Nat.gcd X' Y'=Nat.gcd X Y:=by
 obtain⟨h1,h2,h3,h4⟩:=uY h
 obtain⟨p,hp⟩: ∃ p,p= -s*(a*X-b*Y):=⟨_,rfl⟩
 obtain⟨q,hq⟩: ∃ q,q= -s*(d*Y-c*X):=⟨_,rfl⟩
 rw[←hp,←hq]at h2 h3 h4
 rw[←hq]at h1
 have ep:((p.toNat:Nat):Int)=p:=by omega
 have eq:((q.toNat:Nat):Int)=q:=by omega
 refine⟨p.toNat,q.toNat,by rw[ep,hp],by rw[eq,hq],by omega,?_,pW (a:=a) (b:=b) (c:=c) (d:=d) (p:= -s*a) (q:=s*b) (r:=s*c) (t:= -s*d) (by rw[ep,eq];exact h3) (by rw[ep,eq];exact h4) (by rw[ep,hp];grind) (by rw[eq,hq];grind)⟩
 have k1:1*p≤c*p:=Af h.c1 (by omega)
 have k2:0≤a*q:=Ae h.a0 (by omega)
 omega
section
variable {X:Cx} {Γ:D2} {ρ:DU} {σ:List Res}
theorem ud{K:Act→World→Prop}{α:Type}{p:α→SP}(t:Nat)(h:ρ.get t=some (yh p))(hk: ∀ x,JN X Γ ((t,p x)::ρ) σ K):JN X Γ ρ σ K:=fun a c hs=>by
 obtain⟨x,hx⟩:=hs.env t _ h
 exact hk x a c (hs.over hx)
end
structure ub where
 a:Int
 b:Int
 c:Int
 d:Int
 s:Int
def ub.cs(w:ub):List SP:=[CW (.int .u64 w.a),CW (.int .u64 w.b),CW (.int .u64 w.c),CW (.int .u64 w.d),CW (.bool (decide (w.s=1)))]
def ub.sp(w:ub):SP:=DL w.cs
structure uc(X Y:Int)(w:ub):Prop where
 a:0≤w.a∧w.a<18446744073709551616
 b:0≤w.b∧w.b<18446744073709551616
 c:0≤w.c∧w.c<18446744073709551616
 d:0≤w.d∧w.d<18446744073709551616
 dn:w.b=0∨Dn X Y w.a w.b w.c w.d w.s
theorem uK{X Y a b c d u v x y s:Int}(h:wX X Y a b c d u v x y s)(hb:a<18446744073709551616∧b<18446744073709551616∧c<18446744073709551616∧d<18446744073709551616):uc X Y ⟨a,b,c,d,s⟩:=
 ⟨⟨h.a0,by show a<_;omega⟩,⟨h.b0,by show b<_;omega⟩,⟨h.c0,by show c<_;omega⟩,⟨h.d0,by show d<_;omega⟩,h.dn⟩
theorem za{s:Int}(h:s=1∨s= -1):(!decide (s=1))=decide (-s=1):=by
 rcases h with h|h<;>subst h<;>decide
theorem O2{X:Nat}{d:Int}(hd:0≤d∧d<18446744073709551616):(CQ (CS (CQ X)*d+0).toNat).length≤(CQ X).length+1:=by
 obtain⟨n,rfl⟩: ∃ n:Nat,d=n:=⟨d.toNat,by omega⟩
 rw[Do,Ba,←Ad,Ar]
 have h1:=N8 (x:=X) (y:=n)
 have h2:(CQ n).length≤1:=FR (k:=1) (by show((n:Nat):Int)<18446744073709551616^1;omega)
 omega
theorem TJ{p q:Int}{X Y Z:Nat}(hp:0≤p∧p<18446744073709551616)(hq:0≤q∧q<18446744073709551616)(h:(Z:Int)=p*X-q*Y):((((p*X+0).toNat:Nat):Int) -(((q*Y+0).toNat:Nat):Int)).toNat=Z:=by
 have h1:0≤p*X:=Ae hp.1 (by omega)
 have h2:0≤q*Y:=Ae hq.1 (by omega)
 omega
theorem iJ{A:Nat}(h:1<(CQ A).length)(hl:(CQ A).length≤1000000000): ∃ n:Nat,bl A=n+64∧A/2^n<18446744073709551616∧n≤64000000000:=by
 have h1:=oP (x:=A) hl
 have h2:18446744073709551616≤A:=by
  refine Aj fun hc=>?_
  have:(CQ A).length≤1:=FR (k:=1) (by show((A:Nat):Int)<18446744073709551616^1;omega)
  omega
 have h3:64<bl A:=by
  refine Aj fun hc=>?_
  have h4:=VA (t:=A) (k:=64) (by omega)
  have h64:(2:Nat)^64=18446744073709551616:=by decide
  omega
 obtain⟨n,hn⟩: ∃ n,bl A=n+64:=⟨bl A-64,by omega⟩
 refine⟨n,hn,?_,by omega⟩
 have h5:=VA (t:=A) (k:=n+64) (by omega)
 rw[Bd]at h5
 exact(CC (Ax n)).2 (by rw[AP];exact h5)
theorem pw{A B C D:Nat}(hB:(CQ B).length≤1)(hC:C=if 0<(CQ B).length∧1<(CQ A).length then B else A)(hD:D=if 0<(CQ B).length∧1<(CQ A).length then A % B else B):Nat.gcd C D=Nat.gcd A B∧(D≠0→C<18446744073709551616∧D<18446744073709551616):=by
 have hb:=Rq hB
 by_cases h:0<(CQ B).length∧1<(CQ A).length
 ·rw[if_pos h]at hC hD
  rw[hC,hD]
  refine⟨N4 A B,fun _=>⟨hb,?_⟩⟩
  have h0:0<B:=AS fun e=>by have:=h.1;rw[e,DZ]at this;simp at this
  have:=Ap A h0
  omega
 rw[if_neg h]at hC hD
 rw[hC,hD]
 refine⟨rfl,fun h0=>⟨?_,hb⟩⟩
 have h1:0<(CQ B).length:=AS fun e=>h0 (F2.1 e)
 exact Rq (by omega)
theorem P9{b:Bool}{n d:Nat}{q:Rat}(h1:q.num=Ds b n)(h2:q.den=d):
  [CW (.bool (decide (Ds b (CX (CR n)).toNat<0))),DP .u32 (CR (Ds b (CX (CR n)).toNat).natAbs),CW (.bool (decide (Ds false (CX (CR d)).toNat<0))),DP .u32 (CR (Ds false (CX (CR d)).toNat).natAbs)]=H5 q:=by
 have e:decide (Ds false d<0)=false:=by unfold Ds;simp
 have e2:(Ds false d).natAbs=d:=KH _ _
 show _=[CW (.bool (decide (q.num<0))),DP .u32 (CR q.num.natAbs),CW (.bool false),DP .u32 (CR q.den)]
 rw[Jc,Jc,h1,h2,e,e2]
theorem Tq(b:Bool):Ds b 0=0:=by cases b<;>rfl
theorem bz(b:Bool)(B:Nat):(mkRat (Ds b 0) B).num=0∧(mkRat (Ds b 0) B).den=1:=by
 rw[Tq,Rat.zero_mkRat]
 exact⟨rfl,rfl⟩
structure JI(n:Nat)(q:Rat):Prop where
 a:((q.num.natAbs:Nat):Int)<DQ n
 b:((q.den:Nat):Int)<DQ n
theorem HZ{a b n m k:Nat}(h1:(a:Int)<DQ n)(h2:(b:Int)<DQ m)(hk:n+m≤k):((a*b:Nat):Int)<DQ k:=by
 have h3:=G2 hk
 rw[K6]at h3
 have h4:(a:Int)*b≤(a:Int)*DQ m:=Ac (by omega) (by omega)
 have h5:(a:Int)*DQ m<DQ n*DQ m:=CK h1 (by have:=F9 m;omega)
 rw[Ad]
 omega
theorem JI.mono{n m:Nat}{q:Rat}(h:JI n q)(hm:n≤m):JI m q:=by
 have:=G2 hm
 have h1:=h.a
 have h2:=h.b
 exact⟨by omega,by omega⟩
theorem a0i{x:Nat}(h:(x:Int)<DQ 1000000000):Kk (x:Int):=⟨by simpa using h⟩
theorem JI.len{n:Nat}{q:Rat}(h:JI n q)(hn:n≤1000000000):(CR q.num.natAbs).length≤1000000000∧(CR q.den).length≤1000000000:=
 ⟨Ak (Hx h.a) hn,Ak (Hx h.b) hn⟩
theorem RU{b:Bool}{A B n:Nat}(hB:B≠0)(h1:(A:Int)<DQ n)(h2:(B:Int)<DQ n):JI n (mkRat (Ds b A) B):=by
 obtain⟨e1,e2⟩:=OZ b (A:=A) hB
 have g1:=Co A (Nat.gcd A B)
 have g2:=Co B (Nat.gcd A B)
 refine⟨?_,?_⟩
 ·rw[e1,KH];omega
 rw[e2];omega
theorem K5(x y:Nat):(CX (CR x)*CX (CR y)).toNat=x*y:=qF x y
theorem UE(x y:Rat):mkRat (Ds (decide (x.num<0) !=decide (y.num<0)) (x.num.natAbs*y.num.natAbs)) (x.den*y.den)=x*y:=by
 rw[z9,Rat.mul_def,Rat.normalize_eq_mkRat]
theorem rY{a c:Int}{b:Nat}:Ds (decide (a<0) !=decide (c<0)) (a.natAbs*b)*c=a*b*(c.natAbs:Int):=by
 unfold Ds
 rw[Ad]
 by_cases ha:a<0<;>by_cases hc:c<0<;>simp[ha,hc]
 ·rw[show(a.natAbs:Int)= -a by omega,show(c.natAbs:Int)= -c by omega];grind
 ·rw[show(a.natAbs:Int)= -a by omega,show(c.natAbs:Int)=c by omega];grind
 ·rw[show(a.natAbs:Int)=a by omega,show(c.natAbs:Int)= -c by omega];grind
 rw[show(a.natAbs:Int)=a by omega,show(c.natAbs:Int)=c by omega]
theorem UF{x y:Rat}(hy:y≠0):mkRat (Ds (decide (x.num<0) !=decide (y.num<0)) (x.num.natAbs*y.den)) (x.den*y.num.natAbs)=x/y:=by
 have h0:y.num≠0:=fun e=>hy (Rat.num_eq_zero.1 e)
 have h1:x.den≠0:=x.den_nz
 rw[Rat.div_def,Rat.inv_def,←Rat.divInt_ofNat]
 conv=>rhs;lhs;rw[←Rat.num_divInt_den x]
 rw[Rat.divInt_mul_divInt]
 have e2:((x.den*y.num.natAbs:Nat):Int)=(x.den:Int)*(y.num.natAbs:Int):=Ad ..
 refine(Rat.divInt_eq_divInt_iff ?_ ?_).2 ?_
 ·exact_mod_cast Bk h1 (by omega)
 ·exact Int.mul_ne_zero (by omega) h0
 rw[e2]
 have e3:= @rY x.num y.num y.den
 generalize Ds (decide (x.num<0) !=decide (y.num<0)) (x.num.natAbs*y.den)=S at*
 grind
theorem bW(x y:Rat):mkRat (Ds (decide (x.num*y.den-y.num*x.den<0)) (x.num*y.den-y.num*x.den).natAbs) (x.den*y.den)=x-y:=by
 rw[Tp,Rat.sub_def']
theorem iX(x y:Rat):[CW (.bool (decide (x.num<0))),DP .u32 (CR (CX (CR x.num.natAbs)*CX (CR y.den)).toNat)]=Ks (x.num*y.den):=by
 have h1:(0:Int)<y.den:=by have:=y.den_pos;omega
 have e:decide (x.num*y.den<0)=decide (x.num<0):=by
  refine decide_eq_decide.2 ⟨fun h=>?_,fun h=>?_⟩
  ·exact Aj fun hc=>by
    have:=Ae (show 0≤x.num by omega) (show(0:Int)≤y.den by omega)
    omega
  exact Int.mul_neg_of_neg_of_pos h h1
 show _=[CW (.bool (decide (x.num*y.den<0))),DP .u32 (CR (x.num*y.den).natAbs)]
 rw[K5,e,BB,Av]
theorem Qn{x:Int}(h:Kk x):Kk ((x.natAbs:Nat):Int):=⟨by have:=h.h;simpa using this⟩
theorem tS:Kk ((1:Nat):Int):=Zv (by decide)
theorem OA{a b n m:Nat}(h1:(a:Int)<DQ n)(h2:(b:Int)<DQ m)(hk:n+m≤1000000000):Kk (((CX (CR a)*CX (CR b)).toNat:Nat):Int):=a0i (by rw[K5];exact HZ h1 h2 hk)
theorem ZG{a b:Nat}(h1:a≠0)(h2:b≠0):(CX (CR a)*CX (CR b)).toNat≠0:=by rw[K5];exact Bk h1 h2
theorem sm{x y:Rat}(hx:JI 225000000 x)(hy:JI 750000000 y):Kk (x.num*y.den)∧Kk (y.num*x.den)∧Kk (x.num*y.den-y.num*x.den):=by
 have h1:=HZ hx.a hy.b (show 225000000+750000000≤975000000 by omega)
 have h2:=HZ hy.a hx.b (show 750000000+225000000≤975000000 by omega)
 have h3:=G2 (show 975000001≤1000000000 by omega)
 rw[show 975000001=975000000+1 from rfl,F7]at h3
 have h0:=F9 975000000
 have e1:(x.num*y.den).natAbs=x.num.natAbs*y.den:=by rw[BB,Av]
 have e2:(y.num*x.den).natAbs=y.num.natAbs*x.den:=by rw[BB,Av]
 rw[←e1]at h1
 rw[←e2]at h2
 exact⟨⟨by omega⟩,⟨by omega⟩,⟨by omega⟩⟩
def IP(q:Rat):List SP:=[CW (.bool (decide (q.num<0))),DP .u64 (CQ q.num.natAbs),CW (.bool false),DP .u64 (CQ q.den)]
abbrev EE(q:Rat):SP:=Gf (IP q)
structure FV(n:Nat)(q:Rat):Prop where
 a:(CQ q.num.natAbs).length≤n
 b:(CQ q.den).length≤n
theorem FV.mono{n m:Nat}{q:Rat}(h:FV n q)(hm:n≤m):FV m q:=⟨Ak h.a hm,Ak h.b hm⟩
theorem pn{q:Rat}:(CQ q.den).length≠0:=fun h=>q.den_nz (F2.1 h)
theorem Iq{b:Bool}{A B:Nat}{q:Rat}(h1:Ds b A=q.num)(h2:B=q.den):[CW (.bool (decide (Ds b A<0))),DP .u64 (CQ (Ds b A).natAbs),CW (.bool (decide (Ds false B<0))),DP .u64 (CQ (Ds false B).natAbs)]=IP q:=by
 have e:Ds false B=(B:Int):=rfl
 rw[h1,e,h2,Av,decide_eq_false (show ¬((q.den:Nat):Int)<0 by omega)]
 rfl
theorem Pe(z:Int):Ds (decide (z<0)) z.natAbs=z:=by
 unfold Ds
 by_cases h:z<0
 ·rw[decide_eq_true h,if_pos rfl];omega
 rw[decide_eq_false h,if_neg (by decide)];omega
theorem YU{N:Int}{D:Nat}{q:Rat}(hD:D≠0)(hc:Nat.Coprime N.natAbs D)(h:mkRat N D=q):N=q.num∧D=q.den:=by
 rw[←Rat.mk_eq_mkRat N D hD hc]at h
 subst h
 exact⟨rfl,rfl⟩
theorem X4{a b c d:Nat}(hb:b≠0)(hd:d≠0)(h1:Nat.Coprime a b)(h2:Nat.Coprime c d):(b/Nat.gcd c b)*(d/Nat.gcd a d)≠0∧Nat.Coprime ((a/Nat.gcd a d)*(c/Nat.gcd c b)) ((b/Nat.gcd c b)*(d/Nat.gcd a d))∧(a/Nat.gcd a d)*(c/Nat.gcd c b)*(b*d)=a*c*((b/Nat.gcd c b)*(d/Nat.gcd a d)):=by
 have g0:0<Nat.gcd a d:=Cp _ (AS hd)
 have k0:0<Nat.gcd c b:=Cp _ (AS hb)
 have ea:=C7 (BO a d)
 have ed:=C7 (BP a d)
 have ec:=C7 (BO c b)
 have eb:=C7 (BP c b)
 have c1:Nat.Coprime (a/Nat.gcd a d) (d/Nat.gcd a d):=Nat.coprime_div_gcd_div_gcd g0
 have c2:Nat.Coprime (c/Nat.gcd c b) (b/Nat.gcd c b):=Nat.coprime_div_gcd_div_gcd k0
 generalize Nat.gcd a d=g at*
 generalize Nat.gcd c b=k at*
 generalize a/g=a' at*
 generalize d/g=d' at*
 generalize c/k=c' at*
 generalize b/k=b' at*
 subst ea ed ec eb
 have d0:d'≠0:=fun e=>hd (by rw[e,BR])
 have b0:b'≠0:=fun e=>hb (by rw[e,BR])
 refine⟨Bk b0 d0,?_,by grind⟩
 have c3:Nat.Coprime a' b':=Nat.Coprime.coprime_mul_right (Nat.Coprime.coprime_mul_right_right h1)
 have c4:Nat.Coprime c' d':=Nat.Coprime.coprime_mul_right (Nat.Coprime.coprime_mul_right_right h2)
 exact Nat.Coprime.mul_right (Nat.Coprime.mul_left c3 c2) (Nat.Coprime.mul_left c1 c4)
theorem x4(q:Rat):Nat.Coprime q.num.natAbs q.den:=q.reduced
theorem Hz(b:Bool)(A:Nat):(Ds b A).natAbs=A:=KH b A
theorem Mu{b:Bool}{A B D E:Nat}(h:A*E=B*D):Ds b A*(E:Int)=Ds b B*(D:Int):=by
 have h':(A:Int)*E=B*D:=by exact_mod_cast h
 unfold Ds
 cases b
 ·simpa using h'
 simp only[if_true]
 rw[Int.neg_mul,Int.neg_mul,h']
theorem Uj(x y:Rat):Ds (decide (x.num<0) !=decide (y.num<0)) ((x.num.natAbs/Nat.gcd x.num.natAbs y.den)*(y.num.natAbs/Nat.gcd y.num.natAbs x.den))=(x*y).num∧(x.den/Nat.gcd y.num.natAbs x.den)*(y.den/Nat.gcd x.num.natAbs y.den)=(x*y).den:=by
 obtain⟨h1,h2,h3⟩:=X4 x.den_nz y.den_nz (x4 x) (x4 y)
 refine YU h1 (by rw[Hz];exact h2) ?_
 rw[←UE x y]
 refine(Rat.mkRat_eq_iff h1 (Bk x.den_nz y.den_nz)).2<|Mu h3
theorem UC{x y:Rat}(hy:y≠0):Ds (decide (x.num<0) !=decide (y.num<0)) ((x.num.natAbs/Nat.gcd x.num.natAbs y.num.natAbs)*(y.den/Nat.gcd y.den x.den))=(x/y).num∧(x.den/Nat.gcd y.den x.den)*(y.num.natAbs/Nat.gcd x.num.natAbs y.num.natAbs)=(x/y).den:=by
 have hn:y.num.natAbs≠0:=fun e=>hy (Rat.num_eq_zero.1 (by omega))
 obtain⟨h1,h2,h3⟩:=X4 x.den_nz hn (x4 x) (x4 y).symm
 refine YU h1 (by rw[Hz];exact h2) ?_
 rw[←UF hy]
 refine(Rat.mkRat_eq_iff h1 (Bk x.den_nz hn)).2<|Mu h3
theorem iU{N a r:Int}{e f:Nat}(h:N=a*f+r*e)(hf:Nat.Coprime e f)(ha:Nat.Coprime a.natAbs e):Nat.Coprime N.natAbs e:=by
 have h1:=BO N.natAbs e
 have h2:=BP N.natAbs e
 show Nat.gcd N.natAbs e=1
 generalize Nat.gcd N.natAbs e=d at*
 have h3:(d:Int)∣N:=Int.natAbs_dvd_natAbs.1 (by rw[Av];exact h1)
 have h4:(d:Int)∣r*e:=CI (Cv.2 h2)
 have h5:(d:Int)∣a*f:=by
  have e2:a*f=N-r*e:=by omega
  rw[e2]
  exact Int.dvd_sub h3 h4
 have h6:d∣a.natAbs*f:=by
  have:=Int.natAbs_dvd_natAbs.2 h5
  rw[BB,Av,Av]at this
  exact this
 have h7:Nat.Coprime d f:=Nat.Coprime.coprime_dvd_left h2 hf
 have h8:d∣a.natAbs:=h7.dvd_of_dvd_mul_right h6
 have h9:d∣Nat.gcd a.natAbs e:=Nat.dvd_gcd h8 h2
 rw[show Nat.gcd a.natAbs e=1 from ha]at h9
 exact Nat.dvd_one.1 h9
def IW(x y:Rat):Int:=x.num*((y.den/Nat.gcd x.den y.den:Nat):Int)+y.num*((x.den/Nat.gcd x.den y.den:Nat):Int)
def HA(x y:Rat):Nat:=Nat.gcd (IW x y).natAbs (Nat.gcd x.den y.den)
theorem TI(x y:Rat):Ds (decide (IW x y<0)) ((IW x y).natAbs/HA x y)=(x+y).num∧(x.den/Nat.gcd x.den y.den)*(y.den/HA x y)=(x+y).den:=by
 have g0:0<Nat.gcd x.den y.den:=Cp _ (AS y.den_nz)
 have c0:Nat.Coprime (x.den/Nat.gcd x.den y.den) (y.den/Nat.gcd x.den y.den):=Nat.coprime_div_gcd_div_gcd g0
 have ex:=C7 (BO x.den y.den)
 have ey:=C7 (BP x.den y.den)
 have k1:Nat.Coprime (IW x y).natAbs (x.den/Nat.gcd x.den y.den):=iU (a:=x.num) (r:=y.num) rfl c0 (Nat.Coprime.coprime_dvd_right (Nat.div_dvd_of_dvd (BO x.den y.den)) (x4 x))
 have k2:Nat.Coprime (IW x y).natAbs (y.den/Nat.gcd x.den y.den):=iU (a:=y.num) (r:=x.num) (by unfold IW;omega) c0.symm (Nat.Coprime.coprime_dvd_right (Nat.div_dvd_of_dvd (BP x.den y.den)) (x4 y))
 have hh0:0<HA x y:=Cp _ g0
 have hc:Nat.Coprime ((IW x y).natAbs/HA x y) (Nat.gcd x.den y.den/HA x y):=Nat.coprime_div_gcd_div_gcd hh0
 have hhN:HA x y∣(IW x y).natAbs:=BO _ _
 have hhg:HA x y∣Nat.gcd x.den y.den:=BP _ _
 have hN:IW x y*((Nat.gcd x.den y.den:Nat):Int)=x.num*y.den+y.num*x.den:=by
  unfold IW
  have e1:((x.den/Nat.gcd x.den y.den:Nat):Int)*((Nat.gcd x.den y.den:Nat):Int)=x.den:=by rw[←Ad,ex]
  have e2:((y.den/Nat.gcd x.den y.den:Nat):Int)*((Nat.gcd x.den y.den:Nat):Int)=y.den:=by rw[←Ad,ey]
  rw[AJ,Aw,e2,Aw,e1]
 have hxd:=x.den_nz
 have hyd:=y.den_nz
 have eyh:y.den/HA x y=(y.den/Nat.gcd x.den y.den)*(Nat.gcd x.den y.den/HA x y):=by
  rw[←Nat.mul_div_assoc _ hhg,ey]
 have f0:y.den/HA x y≠0:=by
  have:HA x y∣y.den:=Nat.dvd_trans hhg (BP _ _)
  have:=Nat.div_pos (Nat.le_of_dvd (AS hyd) this) hh0
  omega
 have e0:x.den/Nat.gcd x.den y.den≠0:=by
  have:=Nat.div_pos (Nat.le_of_dvd (AS hxd) (BO x.den y.den)) g0
  omega
 have hl:((IW x y).natAbs/HA x y)∣(IW x y).natAbs:=Nat.div_dvd_of_dvd hhN
 refine YU (Bk e0 f0) ?_ ?_
 ·rw[Hz,eyh]
  exact Nat.Coprime.mul_right (Nat.Coprime.coprime_dvd_left hl k1) (Nat.Coprime.mul_right (Nat.Coprime.coprime_dvd_left hl k2) hc)
 rw[Rat.add_def']
 refine(Rat.mkRat_eq_iff (Bk e0 f0) (Bk hxd hyd)).2 ?_
 rw[←hN]
 have hs:Ds (decide (IW x y<0)) ((IW x y).natAbs/HA x y)*(HA x y:Int)=IW x y:=by
  have e1:=Mu (b:=decide (IW x y<0)) (A:=(IW x y).natAbs/HA x y) (B:=(IW x y).natAbs) (D:=1) (E:=HA x y) (by rw[C7 hhN,Bz])
  rw[e1,Pe]
  omega
 have hd:((x.den/Nat.gcd x.den y.den*(y.den/HA x y):Nat):Int)*(HA x y:Int)*((Nat.gcd x.den y.den:Nat):Int)=((x.den*y.den:Nat):Int):=by
  have hy:y.den/HA x y*HA x y=y.den:=C7 (Nat.dvd_trans hhg (BP _ _))
  rw[←Ad,←Ad]
  congr 1
  calc x.den/Nat.gcd x.den y.den*(y.den/HA x y)*HA x y*Nat.gcd x.den y.den
    =(x.den/Nat.gcd x.den y.den*Nat.gcd x.den y.den)*(y.den/HA x y*HA x y):=by grind
   _=x.den*y.den:=by rw[ex,hy]
 rw[←hd]
 generalize Ds (decide (IW x y<0)) ((IW x y).natAbs/HA x y)=S at*
 rw[←hs]
 grind
theorem JD(x y:Nat):(CS (CQ x)*CS (CQ y)).toNat=x*y:=by rw[Do,Do,←Ad,Ar]
theorem HV{x y n m k:Nat}(h1:(CQ x).length≤n)(h2:(CQ y).length≤m)(hk:n+m≤k):(CQ (x*y)).length≤k:=Ak N8 (by omega)
theorem Eu{x y n:Nat}(h1:(CQ x).length≤n):(CQ (x/y)).length≤n:=Ak (Fw (Co x y)) h1
theorem LH{x y n:Nat}(h0:y≠0)(h1:(CQ y).length≤n):(CQ (Nat.gcd x y)).length≤n:=Ak (Fw (Nat.gcd_le_right x (AS h0))) h1
theorem U9{x y:Nat}(h0:y≠0):0<Nat.gcd x y:=Cp _ (AS h0)
theorem eW{Y:Nat}(h:(CQ Y).length=1∧(CQ Y).getD ((0:Int)).toNat 0=1):Y=1:=by
 have:=Rr h.1
 have h2:=h.2
 omega
theorem Wq:CQ 1=[1]:=by
 have h:CQ 1=CQ (CS [1]).toNat:=by rw[Kv];rfl
 rw[h]
 exact OU (fun z hz=>by rw[AE.1 hz];decide) (.inr (by decide))
theorem bC(q:Rat):Ds (!decide (q.num<0)) q.num.natAbs=(-q).num∧q.den=(-q).den:=by
 refine⟨?_,rfl⟩
 show _= -q.num
 unfold Ds
 by_cases h:q.num<0
 ·rw[decide_eq_true h];simp;omega
 rw[decide_eq_false h];simp;omega
theorem Xu(a:Int)(f:Nat):Ds (decide (a<0)) (a.natAbs*f)=a*f:=by
 have h:=Mu (b:=decide (a<0)) (A:=a.natAbs*f) (B:=a.natAbs) (D:=f) (E:=1) (by rw[Bz])
 rw[Pe]at h
 omega
theorem nv{x:Int}{n:Nat}(h:(CQ x.natAbs).length≤n)(hn:n≤1000000000):Yk x:=⟨by
 have h1:=Ex (D9 x.natAbs)
 rw[Do]at h1
 have h2:=H6 (show(CQ x.natAbs).length≤1000000000 by omega)
 omega⟩
theorem LL{a:Int}{f n m k:Nat}(h1:(CQ a.natAbs).length≤n)(h2:(CQ f).length≤m)(hk:n+m≤k):(CQ (a*(f:Int)).natAbs).length≤k:=by
 rw[BB,Av]
 exact HV h1 h2 hk
theorem Vq{a b:Int}{n:Nat}(h1:(CQ a.natAbs).length≤n)(h2:(CQ b.natAbs).length≤n):(CQ (a+b).natAbs).length≤n+1:=by
 refine FR ?_
 have k1:=Ex (D9 a.natAbs)
 have k2:=Ex (D9 b.natAbs)
 rw[Do]at k1 k2
 have m1:=H6 h1
 have m2:=H6 h2
 have h3:=Int.natAbs_add_le a b
 rw[Em]
 have:=Er n
 omega
theorem il{x y:Rat}{n:Nat}(hx:FV n x)(hy:FV n y):(CQ (IW x y).natAbs).length≤2*n+1:=by
 unfold IW
 exact Vq (n:=2*n) (LL hx.a (Eu hy.b) (by omega)) (LL hy.a (Eu hx.b) (by omega))
theorem FV.mul{x y:Rat}{n m:Nat}(hx:FV n x)(hy:FV m y):FV (n+m) (x*y):=by
 obtain⟨h1,h2⟩:=Uj x y
 refine⟨?_,?_⟩
 ·rw[←h1,Hz]
  exact HV (Eu hx.a) (Eu hy.a) (A5 _)
 rw[←h2]
 exact HV (Eu hx.b) (Eu hy.b) (A5 _)
theorem FV.quo{x y:Rat}{n m:Nat}(hx:FV n x)(hy:FV m y)(h0:y≠0):FV (n+m) (x/y):=by
 obtain⟨h1,h2⟩:=UC (x:=x) h0
 refine⟨?_,?_⟩
 ·rw[←h1,Hz]
  exact HV (Eu hx.a) (Eu hy.b) (A5 _)
 rw[←h2]
 exact HV (Eu hx.b) (Eu hy.a) (A5 _)
theorem FV.neg{x:Rat}{n:Nat}(hx:FV n x):FV n (-x):=⟨by show(CQ (-x.num).natAbs).length≤n;rw[BW];exact hx.a,hx.b⟩
theorem FV.add{x y:Rat}{n m:Nat}(hx:FV n x)(hy:FV m y):FV (n+m+1) (x+y):=by
 obtain⟨h1,h2⟩:=TI x y
 refine⟨?_,?_⟩
 ·rw[←h1,Hz]
  refine Eu ?_
  unfold IW
  exact Vq (n:=n+m) (LL hx.a (Eu hy.b) (A5 _)) (LL hy.a (Eu hx.b) (by omega))
 rw[←h2]
 exact HV (Eu hx.b) (Eu hy.b) (by omega)
theorem FV.sub{x y:Rat}{n m:Nat}(hx:FV n x)(hy:FV m y):FV (n+m+1) (x-y):=by
 rw[Rat.sub_eq_add_neg]
 exact hx.add hy.neg
abbrev Nx(q:Rat):SP:=DL [EE q]
theorem Rp{n:Nat}(h:n<18446744073709551616):(CQ n).length≤1:=FR (k:=1) (by show((n:Nat):Int)<18446744073709551616^1;omega)
theorem eS{n m:Nat}:mkRat (Ds (decide ((n:Int)<0) !=decide ((m:Int)<0)) (n:Int).natAbs) (m:Int).natAbs=mkRat (n:Int) m:=by
 rw[decide_eq_false (show ¬((n:Nat):Int)<0 by omega),decide_eq_false (show ¬((m:Nat):Int)<0 by omega),Av,Av]
 rfl
theorem qW(x:Nat):Kx (Iw x)<9007199254740992:=by
 have:=P2 x
 unfold P1 at this
 by_cases h:On x=true
 ·simp only[if_pos h,BW,Av]at this;exact this
 simp only[if_neg h,Av]at this;exact this
theorem bQ{n:Nat}:((1:Nat):Int)*2^n≠0:=by
 have e:((1:Nat):Int)*2^n=((2^n:Nat):Int):=by simp
 have:=Ax n
 rw[e]
 omega
theorem og(k:Nat):Dg k=((2^(64*k):Nat):Int):=by
 have:(2:Nat)^64=18446744073709551616:=by decide
 rw[Nat.pow_mul,this,Ch]
 rfl
theorem m8{n:Nat}(h:n≤1100):(CQ (((1:Nat):Int)*2^n).natAbs).length≤18:=by
 have e:(((1:Nat):Int)*2^n).natAbs=2^n:=by
  have e:((1:Nat):Int)*2^n=((2^n:Nat):Int):=by simp
  rw[e,Av]
 rw[e]
 obtain⟨K,hK⟩: ∃ K:Nat,K=18:=⟨_,rfl⟩
 rw[←hK]
 refine FR ?_
 rw[og]
 exact BJ.2 (Nat.pow_lt_pow_right (by omega) (by omega))
theorem qO{x y:Int}:Ds (decide (x<0) !=decide (y<0)) (x.natAbs*y.natAbs)=x*y:=by
 unfold Ds
 by_cases hx:x<0<;>by_cases hy:y<0<;>simp[hx,hy]
 ·have:=Int.neg_mul_neg x y;rw[←this];congr 1<;>omega
 ·rw[show(x.natAbs:Int)= -x by omega,show(y.natAbs:Int)=y by omega];grind
 ·rw[show(x.natAbs:Int)=x by omega,show(y.natAbs:Int)= -y by omega];grind
 rw[show(x.natAbs:Int)=x by omega,show(y.natAbs:Int)=y by omega]
end Go.Bn
