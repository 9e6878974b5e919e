/-
 Long division of words (Knuth's way): what each step comes to.
-/
import Derived.Test.YtgfanjebfjeneaaGreatDoorZqM4
import Derived.Test.YtgfanjebfjeneaaGreatDoorZqM3
set_option linter.unusedVariables false
set_option linter.unusedSimpArgs false
namespace Go.Bn
open Go
theorem RP{t d:Int}(h0:0≤t)(h1:t<18446744073709551616)(hd:0<d):IntKind.u64.wrap (t.tdiv d)=t/d:=by
 rw[Cw h0]
 have q0:0≤t/d:=AY h0 (by omega)
 have q1:t/d≤t:=by
  have:=Int.ediv_le_self d h0
  exact this
 exact DD q0 (by omega)
theorem tF{t d:Int}(h0:0≤t):t.tmod d=t % d:=BY h0
theorem q8{x y:Int}(hx:0≤x∧x<4294967296)(hy:0≤y∧y<4294967296):Ej .or .u64 (IntKind.u64.wrap (x*2^min (32:Int).toNat IntKind.u64.bits)) y=x*4294967296+y:=by
 obtain⟨a,rfl⟩: ∃ n:Nat,x=n:=⟨x.toNat,by omega⟩
 obtain⟨b,rfl⟩: ∃ n:Nat,y=n:=⟨y.toNat,by omega⟩
 have e:IntKind.u64.wrap ((a:Int)*2^min (32:Int).toNat IntKind.u64.bits)=((a*2^32:Nat):Int):=by
  rw[show min (32:Int).toNat IntKind.u64.bits=32 by decide,Nt]
  have:((2:Int)^32)=4294967296:=by decide
  have h2:(2:Nat)^32=4294967296:=by decide
  rw[this,h2]
  omega
 have h2:(2:Nat)^32=4294967296:=by decide
 rw[e,KQ _ _ (by omega) (by omega),Z9 a b 32 (by omega)]
 omega
theorem SH{p:Int}(h0:0≤p)(h1:p<18446744073709551616):Ej .and .u64 p 4294967295=p % 4294967296:=by
 obtain⟨a,rfl⟩: ∃ n:Nat,p=n:=⟨p.toNat,by omega⟩
 show IntKind.u64.wrap ((BitVec.ofInt 64 (a:Int)&&&BitVec.ofInt 64 ((4294967295:Nat):Int)).toNat:Int)=_
 rw[BitVec.toNat_and,Gk a (by omega),Gk 4294967295 (by omega),show(4294967295:Nat)=2^32-1 by decide,Nat.and_two_pow_sub_one_eq_mod,DD (by omega) (by omega)]
 omega
theorem Mk{l:List Int}{k:Nat}(hk:k<l.length):CX (l.drop k)=l.getD k 0+4294967296*CX (l.drop (k+1)):=by
 rw[BZ hk,CX,List.getD,Ag hk]
 rfl
theorem O0{l:List Int}{k:Nat}(hk:l.length≤k):CX (l.drop k)=0:=by rw[BK hk];rfl
theorem LJ(l:List Int)(k:Nat)(hk:k≤l.length):CX l=CX (l.take k)+DQ k*CX (l.drop k):=by
 have h:=Gj (l.take k) (l.drop k)
 rw[Bu,A9,At hk]at h
 exact h
theorem Pt{l:List Int}{i k:Nat}{v:Int}(h:i<k):(l.set i v).drop k=l.drop k:=by
 apply C1
 intro j
 rw[AF,AF,Bq (by omega)]
theorem VM(l:List Int)(j i:Nat)(v:Int):(l.set (j+i) v).drop j=(l.drop j).set i v:=by
 apply C1
 intro k
 rw[AF]
 by_cases e:i=k
 ·subst e
  by_cases hl:j+i<l.length
  ·rw[BL hl,BL (by rw[AD];omega)]
  rw[AT (by rw[Aa];omega),AT (by rw[Aa,AD];omega)]
 rw[Bq (by omega),Bq e,AF]
theorem K4{l:List Int}{i k:Nat}{v:Int}(h:k≤i):(l.set i v).take k=l.take k:=by
 apply C1
 intro j
 rw[B9,B9]
 split
 ·rw[Bq (by omega)]
 rfl
theorem YJ(l:List Int)(j i:Nat):(l.drop j).getD i 0=l.getD (j+i) 0:=by rw[List.getD,List.getD,AF]
theorem VJ: ∀ {a b:List Int},Fm a→Fm b→a.length=b.length→CX a=CX b→a=b
 |[],[],_,_,_,_=>rfl
 |[],_::_,_,_,h,_=>by simp at h
 |_::_,[],_,_,h,_=>by simp at h
 |x::a,y::b,ha,hb,hl,hm=>by
  rw[CX,CX]at hm
  have h1:=ha.head
  have h2:=hb.head
  have e:x=y:=by omega
  have e2:CX a=CX b:=by omega
  rw[e,VJ ha.tail hb.tail (by simpa using hl) e2]
structure cY(m l:List Int)(d:Int)(k:Nat)(r:Int):Prop where
 hl:l.length=m.length
 hd:Fm l
 hk:k≤m.length
 hr:0≤r∧r<d
 hv:CX (l.drop k)*d+r=CX (m.drop k)
theorem nd{m:List Int}{d:Int}(hd:0<d):cY m (List.replicate m.length 0) d m.length 0 where
 hl:=Am
 hd:=KT _
 hk:=A5 _
 hr:=⟨by omega,hd⟩
 hv:=by rw[O0 (by rw[Am];exact A5 _),O0 (A5 _)];omega
theorem nc{m l:List Int}{d r t:Int}{j:Nat}(hm:Fm m)(hd:0<d)(h:cY m l d (j+1) r)(ht:t=r*4294967296+m.getD j 0):cY m (l.set j (t/d)) d j (t % d)∧0≤t/d∧t/d<4294967296∧0≤t∧t<d*4294967296:=by
 have hk:=h.hk
 have hl:=h.hl
 obtain⟨r0,r1⟩:=h.hr
 have hx:=hm.at (k:=j) (by omega)
 have t0:0≤t:=by omega
 have t1:t<d*4294967296:=by omega
 have q0:0≤t/d:=AY t0 (by omega)
 have q1:t/d<4294967296:=Bb hd (by rw[Ab];exact t1)
 have e:=AR t d
 have m0:=Ay t (show d≠0 by omega)
 have m1:=AB t hd
 refine⟨⟨by rw[Aa];exact hl,h.hd.set ⟨q0,q1⟩,by omega,⟨m0,m1⟩,?_⟩,q0,q1,t0,t1⟩
 have hv:=h.hv
 rw[Mk (l:=l.set j (t/d)) (by rw[Aa];omega),Pt (by omega),Hu (by omega),Mk (l:=m) (by omega)]
 generalize t/d=q at*
 generalize t % d=s at*
 generalize CX (l.drop (j+1))=L at*
 generalize CX (m.drop (j+1))=M at*
 grind
theorem nb{m l:List Int}{d r:Int}(hd:0<d)(h:cY m l d 0 r):CX l=CX m/d∧r=CX m % d:=by
 have hv:=h.hv
 obtain⟨r0,r1⟩:=h.hr
 rw[B7,B7]at hv
 rw[←hv,BU]
 constructor
 ·rw[CF _ _ (by omega),Bv r0 r1];omega
 rw[CH,AV r0 r1]
def Ee(l:List Int)(j n:Nat):Int:=CX ((l.drop j).take n)
theorem LY{l:List Int}(h:Fm l)(j n:Nat)(hn:j+n≤l.length):0≤Ee l j n∧Ee l j n<DQ n:=by
 have h1:=(h.drop j).take n
 have h2:=FJ h1
 rw[A9,AD,At (by omega)]at h2
 exact⟨DR h1,h2⟩
theorem It{l:List Int}{j n:Nat}(hn:j+n<l.length):Ee l j (n+1)=Ee l j n+DQ n*l.getD (j+n) 0:=by
 unfold Ee
 rw[F4 (l:=l.drop j) (by rw[AD];omega),YJ]
theorem Om{l:List Int}{j n:Nat}{v:Int}(hn:j+n<l.length):Ee (l.set (j+n) v) j (n+1)=Ee l j n+DQ n*v:=by
 unfold Ee
 rw[VM,II (by rw[AD];omega)]
structure TB(u d l:List Int)(j:Nat)(g:Int)(i:Nat)(c b:Int):Prop where
 hl:l.length=u.length
 hd:Fm l
 ht:l.take j=u.take j
 hr: ∀ k,j+i≤k→l.getD k 0=u.getD k 0
 hi:i≤d.length
 hc:0≤c∧c<4294967296
 hb:b=0∨b=1
 hv:Ee l j i=Ee u j i-g*CX (d.take i)+DQ i*(c+b)
theorem kh{u d:List Int}{j:Nat}{g:Int}(hu:Fm u):TB u d u j g 0 0 0 where
 hl:=rfl
 hd:=hu
 ht:=rfl
 hr:=fun _ _=>rfl
 hi:=A7 _
 hc:=⟨by omega,by omega⟩
 hb:= .inl rfl
 hv:=by
  unfold Ee
  simp only[Bi]
  show(0:Int)=0-g*0+DQ 0*(0+0)
  omega
theorem NV{u d l:List Int}{j i:Nat}{g c b p y v b':Int}(hd:Fm d)(hg:0≤g∧g≤4294967296)(h:TB u d l j g i c b)(hi:i<d.length)(hn:j+d.length<u.length)(hp:p=g*d.getD i 0+c)(hy:y=p % 4294967296+b)(hb':b'=0∨b'=1)(hv:v=l.getD (j+i) 0-y+4294967296*b')(h0:0≤v∧v<4294967296):
  TB u d (l.set (j+i) v) j g (i+1) (p/4294967296) b' where
 hl:=by rw[Aa];exact h.hl
 hd:=h.hd.set h0
 ht:=by rw[K4 (by omega)];exact h.ht
 hr:=fun k hk=>by rw[getD_set_ne (by omega)];exact h.hr k (by omega)
 hi:=hi
 hc:=by
  have hx:=hd.at (k:=i) hi
  obtain⟨c0,c1⟩:=h.hc
  have p0:0≤g*d.getD i 0:=Ae hg.1 hx.1
  have p1:g*d.getD i 0≤4294967296*4294967295:=Bc hg.2 (by omega) hx.1 (by omega)
  generalize g*d.getD i 0=z at*
  omega
 hb:=hb'
 hv:=by
  have hlen:=h.hl
  have e0:=h.hr (j+i) (A5 _)
  rw[Om (by omega),It (l:=u) (by omega),F4 hi,F7,h.hv,hv,e0,hy,hp]
  have e:=AR (g*d.getD i 0+c) 4294967296
  generalize (g*d.getD i 0+c)/4294967296=q at*
  generalize (g*d.getD i 0+c) % 4294967296=s at*
  generalize u.getD (j+i) 0=x at*
  generalize d.getD i 0=w at*
  generalize CX (d.take i)=D at*
  generalize Ee u j i=U at*
  generalize DQ i=B at*
  grind
def TQ:Nat→Int→List Int
 |0,_=>[]
 |n+1,v=>v % 4294967296::TQ n (v/4294967296)
theorem IG: ∀ (n:Nat) (v:Int),(TQ n v).length=n
 |0,_=>rfl
 |n+1,v=>by rw[TQ,AG,IG n]
theorem QS: ∀ (n:Nat) (v:Int),Fm (TQ n v)
 |0,_=>TO
 |n+1,v=>fun z hz=>by
  rw[TQ]at hz
  rcases AH.1 hz with e|e
  ·subst e;omega
  exact QS n _ z e
theorem NH: ∀ {n:Nat} {v:Int},0≤v→v<DQ n→CX (TQ n v)=v
 |0,v,h0,h1=>by rw[JH]at h1;show(0:Int)=v;omega
 |n+1,v,h0,h1=>by
  rw[F7]at h1
  rw[TQ,CX,NH (n:=n) (by omega) (by omega)]
  omega
def L6(u:List Int)(j n:Nat)(v:Int):List Int:=u.take j++(TQ n v++u.drop (j+n))
theorem Gv{u:List Int}{j n:Nat}{v:Int}(h:j+n≤u.length):(L6 u j n v).length=u.length:=by
 unfold L6
 rw[As,As,A9,IG,AD]
 omega
theorem RO{u:List Int}(hu:Fm u)(j n:Nat)(v:Int):Fm (L6 u j n v):=fun z hz=>by
 unfold L6 at hz
 rcases BD.1 hz with e|e
 ·exact hu z (CA e)
 rcases BD.1 e with e|e
 ·exact QS n v z e
 exact hu z (List.mem_of_mem_drop e)
theorem mh{u:List Int}{j n:Nat}{v:Int}(h:j+n≤u.length)(h0:0≤v)(h1:v<DQ n):CX (L6 u j n v)=CX u-DQ j*Ee u j n+DQ j*v:=by
 have e1:=LJ u j (by omega)
 have e2:=LJ (u.drop j) n (by rw[AD];omega)
 rw[List.drop_drop]at e2
 unfold L6
 rw[Gj,Gj,NH h0 h1,IG,A9,At (by omega),e1,e2]
 unfold Ee
 generalize CX ((u.drop j).take n)=s at*
 generalize CX (u.drop (j+n))=t at*
 generalize DQ j=B at*
 generalize DQ n=C at*
 grind
theorem bR{u l:List Int}{j n:Nat}{v:Int}(hl:l.length=u.length)(hd:Fm l)(hn:j+n≤u.length)(ht:l.take j=u.take j)(hr: ∀ k,j+n≤k→l.getD k 0=u.getD k 0)(hv:Ee l j n=v):l=L6 u j n v:=by
 have e:l=l.take j++((l.drop j).take n++l.drop (j+n)):=by
  rw[show l.drop (j+n)=(l.drop j).drop n by rw[List.drop_drop],Bu,Bu]
 have h1:=LY hd j n (by omega)
 have e1:(l.drop j).take n=TQ n v:=by
  refine VJ ((hd.drop j).take n) (QS n v) (by rw[A9,AD,IG];omega) ?_
  rw[NH (by rw[←hv];exact h1.1) (by rw[←hv];exact h1.2)]
  exact hv
 have e2:l.drop (j+n)=u.drop (j+n):=by
  apply C1
  intro k
  rw[AF,AF]
  have:=hr (j+n+k) (by omega)
  rw[List.getD,List.getD]at this
  by_cases hk:j+n+k<u.length
  ·rw[Ag hk,Ag (show j+n+k<l.length by omega)]at this⊢
   simpa using this
  rw[AT (by omega),AT (by omega)]
 rw[e,ht,e1,e2]
 rfl
def LI(u d:List Int)(j:Nat)(g:Int):Int:=Ee u j (d.length+1) -g*CX d
def Sm(u d:List Int)(j:Nat)(g:Int):List Int:=L6 u j (d.length+1) (LI u d j g+if LI u d j g<0 then DQ (d.length+1)else 0)
theorem kf{u d l:List Int}{j:Nat}{g c b x y:Int}(hu:Fm u)(h:TB u d l j g d.length c b)(hn:j+d.length<u.length)(hx:x=l.getD (j+d.length) 0)(hy:y=c+b):
  l.set (j+d.length) ((x-y) % 4294967296)=Sm u d j g∧(x<y↔LI u d j g<0):=by
 have hlen:=h.hl
 obtain⟨c0,c1⟩:=h.hc
 have hb:=h.hb
 have e0:=h.hr (j+d.length) (A5 _)
 have hx0:=hu.at (k:=j+d.length) (by omega)
 have hw:LI u d j g=Ee l j d.length+DQ d.length*(x-y):=by
  unfold LI
  rw[It hn,h.hv,AI,hx,hy,e0]
  generalize CX d=D
  generalize Ee u j d.length=U
  generalize DQ d.length=B
  generalize u.getD (j+d.length) 0=z
  grind
 have hs:=LY h.hd j d.length (by omega)
 have hB:=F9 d.length
 have On:x<y↔LI u d j g<0:=by
  rw[hw]
  constructor
  ·intro hxy
   have:DQ d.length*(x-y)≤DQ d.length*(-1):=Ac (by omega) (by omega)
   omega
  intro hneg
  refine Aj fun hc=>?_
  have:0≤DQ d.length*(x-y):=Ae (by omega) (by omega)
  omega
 refine⟨?_,On⟩
 unfold Sm
 refine bR (by rw[Aa];exact hlen) (h.hd.set ⟨by omega,by omega⟩) (by omega) (by rw[K4 (by omega)];exact h.ht) (fun k hk=>by rw[getD_set_ne (by omega)];exact h.hr k (by omega)) ?_
 rw[Om (by omega)]
 by_cases hxy:x<y
 ·rw[if_pos (On.1 hxy),hw,show(x-y) % 4294967296=x-y+4294967296 by omega,F7,Al]
  generalize DQ d.length*(x-y)=z
  omega
 rw[if_neg (fun h=>hxy (On.2 h)),hw,show(x-y) % 4294967296=x-y by omega]
 omega
structure ib(u d l:List Int)(j:Nat)(i:Nat)(c:Int):Prop where
 hl:l.length=u.length
 hd:Fm l
 ht:l.take j=u.take j
 hr: ∀ k,j+i≤k→l.getD k 0=u.getD k 0
 hi:i≤d.length
 hc:0≤c∧c≤1
 hv:Ee l j i+DQ i*c=Ee u j i+CX (d.take i)
theorem kV{u d:List Int}{j:Nat}(hu:Fm u):ib u d u j 0 0 where
 hl:=rfl
 hd:=hu
 ht:=rfl
 hr:=fun _ _=>rfl
 hi:=A7 _
 hc:=⟨by omega,by omega⟩
 hv:=by
  unfold Ee
  rw[Bi,Bi]
  show(0:Int)+DQ 0*0=0+0
  omega
theorem kU{u d l:List Int}{j i:Nat}{c t:Int}(hd:Fm d)(h:ib u d l j i c)(hi:i<d.length)(hn:j+d.length<u.length)(ht:t=l.getD (j+i) 0+d.getD i 0+c):ib u d (l.set (j+i) (t % 4294967296)) j (i+1) (t/4294967296) where
 hl:=by rw[Aa];exact h.hl
 hd:=h.hd.set ⟨by omega,by omega⟩
 ht:=by rw[K4 (by omega)];exact h.ht
 hr:=fun k hk=>by rw[getD_set_ne (by omega)];exact h.hr k (by omega)
 hi:=hi
 hc:=by
  have hx:=hd.at (k:=i) hi
  have hlen:=h.hl
  have hy:=h.hd.at (k:=j+i) (by omega)
  have:=h.hc
  omega
 hv:=by
  have hlen:=h.hl
  have e0:=h.hr (j+i) (A5 _)
  have hv:=h.hv
  rw[Om (by omega),It (l:=u) (by omega),F4 hi,F7]
  have e:=AR t 4294967296
  rw[ht,e0]at e
  rw[ht,e0]
  generalize (u.getD (j+i) 0+d.getD i 0+c)/4294967296=q at*
  generalize (u.getD (j+i) 0+d.getD i 0+c) % 4294967296=s at*
  generalize u.getD (j+i) 0=x at*
  generalize d.getD i 0=w at*
  generalize CX (d.take i)=D at*
  generalize Ee u j i=U at*
  generalize Ee l j i=L at*
  generalize DQ i=B at*
  grind
def ez(u d:List Int)(j:Nat):List Int:=L6 u j (d.length+1) ((Ee u j (d.length+1)+CX d) % DQ (d.length+1))
theorem kT{u d l:List Int}{j:Nat}{c:Int}(hu:Fm u)(h:ib u d l j d.length c)(hn:j+d.length<u.length):l.set (j+d.length) ((l.getD (j+d.length) 0+c) % 4294967296)=ez u d j:=by
 have hlen:=h.hl
 obtain⟨c0,c1⟩:=h.hc
 have e0:=h.hr (j+d.length) (A5 _)
 have hx0:=hu.at (k:=j+d.length) (by omega)
 have hs:=LY h.hd j d.length (by omega)
 have hB:=F9 d.length
 unfold ez
 refine bR (by rw[Aa];exact hlen) (h.hd.set ⟨by omega,by omega⟩) (by omega) (by rw[K4 (by omega)];exact h.ht) (fun k hk=>by rw[getD_set_ne (by omega)];exact h.hr k (by omega)) ?_
 have hv:=h.hv
 rw[AI]at hv
 rw[Om (by omega),It hn,e0,F7]
 generalize u.getD (j+d.length) 0=x at*
 have hz:Ee u j d.length+DQ d.length*x+CX d=Ee l j d.length+DQ d.length*(x+c):=by
  generalize CX d=D at*
  generalize Ee u j d.length=U at*
  generalize Ee l j d.length=L at*
  generalize DQ d.length=B at*
  grind
 rw[hz]
 generalize Ee l j d.length=L at*
 generalize DQ d.length=B at*
 have hq:(x+c) % 4294967296=x+c∨(x+c) % 4294967296=x+c-4294967296∧x+c=4294967296:=by omega
 rcases hq with hq|⟨hq,hq2⟩
 ·rw[hq]
  have h1:0≤B*(x+c):=Ae (by omega) (by omega)
  have h2:B*(x+c)≤B*4294967295:=Ac (by omega) (by omega)
  rw[AV (by omega) (by omega)]
 rw[hq,hq2,Ab B 4294967296,Int.add_emod_right,AV (by omega) (by omega)]
 omega
structure Si(t top d2 u2 q:Int)(g r:Int):Prop where
 e:g*top+r=t
 hr:0≤r
 hq:q≤g
 hg:g≤4294967297
structure Vf(W D B:Int)(t top d2 u2:Int):Prop where
 B0:1≤B
 w0:(t*4294967296+u2)*B≤W
 w1:W<(t*4294967296+u2+1)*B
 d0:(top*4294967296+d2)*B≤D
 d1:D<(top*4294967296+d2+1)*B
 ht:2147483648≤top∧top<4294967296
 hd2:0≤d2∧d2<4294967296
 hu2:0≤u2∧u2<4294967296
 hW0:0≤W
 hW:W<D*4294967296
theorem QT{W D B t top d2 u2:Int}(h:Vf W D B t top d2 u2):0<D:=by
 have h1:=h.d0
 have h2:=h.B0
 have h3:=h.ht
 have h4:=h.hd2
 have:1*1≤(top*4294967296+d2)*B:=Bc (by omega) h2 (by omega) (by omega)
 omega
theorem UA{W D q:Int}(hD:0<D):q≤W/D↔q*D≤W:=CJ hD
theorem KU{W D B t top d2 u2:Int}(h:Vf W D B t top d2 u2):0≤W/D∧W/D<4294967296:=by
 have hD:=QT h
 exact⟨AY h.hW0 (by omega),Bb hD (by rw[Ab];exact h.hW)⟩
theorem KJ {W D B t top d2 u2 : Int} (h : Vf W D B t top d2 u2) : Si t top d2 u2 (W / D) (t / top) (t % top) := by
 obtain ⟨t1, t2⟩ := h.ht
 have hD := QT h
 have hq := KU h
 have hB := h.B0
 obtain ⟨q, eq⟩ : ∃ q, q = W / D := ⟨_, rfl⟩
 have q1 : q * D ≤ W := by rw [eq]; exact (UA hD).1 (Int.le_refl _)
 rw [← eq] at hq ⊢
 -- q top <= t
 have k1 : q * top ≤ t := by
  refine Aj fun hc => ?_
  have h1 : t + 1 ≤ q * top := by omega
  have h2 : (t + 1) * 4294967296 * B ≤ q * top * 4294967296 * B := Af (Af h1 (by omega)) (by omega)
  have h3 : q * ((top * 4294967296 + d2) * B) ≤ q * D := Ac h.d0 hq.1
  have h4 : 0 ≤ q * (d2 * B) := Ae hq.1 (Ae h.hd2.1 (by omega))
  have h5 := h.w1
  have h6 : (u2 + 1) * B ≤ 4294967296 * B := Af (by have := h.hu2; omega) (by omega)
  grind
 have k2 : q ≤ t / top := (UA (by omega)).2 k1
 -- t < (top + 1) 2^32
 have k3 : t < (top + 1) * 4294967296 := by
  refine Aj fun hc => ?_
  have h1 : (top + 1) * 4294967296 ≤ t := by omega
  have h2 : (top + 1) * 4294967296 * 4294967296 * B ≤ t * 4294967296 * B := Af (Af h1 (by omega)) (by omega)
  have h3 := h.w0
  have h4 := h.hW
  have h5 := h.d1
  have h6 : 0 ≤ u2 * B := Ae h.hu2.1 (by omega)
  have h7 : (d2 + 1) * B ≤ 4294967296 * B := Af (by have := h.hd2; omega) (by omega)
  grind
 have k4 : t / top < 4294967298 := Bb (by omega) (by omega)
 exact ⟨by rw [Ab]; exact AR t top, Ay _ (by omega), k2, by omega⟩
theorem OB{W D B t top d2 u2 g r:Int}(h:Vf W D B t top d2 u2)(i:Si t top d2 u2 (W/D) g r)(hc:4294967296≤g∨r*4294967296+u2<g*d2):Si t top d2 u2 (W/D) (g-1) (r+top):=by
 have hD:=QT h
 have hq:=KU h
 have hB:=h.B0
 have ht:=h.ht
 have i1:=i.hr
 have i2:=i.hq
 have i3:=i.hg
 refine⟨by have:=i.e;rw[←this,Int.sub_mul];omega,by omega,?_,by omega⟩
 rcases hc with hc|hc
 ·omega
 refine Aj fun hn=>?_
 have e:W/D=g:=by omega
 have q1:g*D≤W:=by rw[←e];exact(UA hD).1 (Int.le_refl _)
 have g0:0≤g:=by omega
 have h3:g*((top*4294967296+d2)*B)≤g*D:=Ac h.d0 g0
 have h4:(r*4294967296+u2+1)*B≤g*d2*B:=Af (by omega) (by omega)
 have h5:=h.w1
 have h6:=i.e
 have e7:t*4294967296*B=(g*top)*4294967296*B+r*4294967296*B:=by rw[←h6];grind
 grind
theorem XQ{W D B t top d2 u2 g r:Int}(h:Vf W D B t top d2 u2)(i:Si t top d2 u2 (W/D) g r)(hg:g≤4294967296)(hc:4294967296≤r∨g*d2≤r*4294967296+u2):g≤W/D+1:=by
 have hD:=QT h
 have hq:=KU h
 have hB:=h.B0
 have ht:=h.ht
 have hd:=h.hd2
 have i2:=i.hq
 have g0:0≤g:=by omega
 have hc2:g*d2≤r*4294967296+u2:=by
  rcases hc with hc|hc
  ·have:g*d2≤4294967296*4294967295:=Bc hg (by omega) hd.1 (by omega)
   have:=h.hu2
   omega
  exact hc
 have h1:g*((top*4294967296+d2)*B)≤W:=by
  have h2:(g*d2)*B≤(r*4294967296+u2)*B:=Af hc2 (by omega)
  have h3:=h.w0
  have e7:t*4294967296*B=(g*top)*4294967296*B+r*4294967296*B:=by rw[←i.e];grind
  grind
 refine Aj fun hn=>?_
 have hlt:W<(W/D+1)*D:=by
  have:=Int.lt_mul_ediv_self_add (x:=W) hD
  grind
 have h2:(W/D+1)*D≤(g-1)*D:=Af (by omega) (by omega)
 have h3:g*D<g*((top*4294967296+d2+1)*B)∨g=0:=by
  rcases Int.lt_or_le 0 g with gp|gp
  ·exact .inl (Int.mul_lt_mul_of_pos_left h.d1 gp)
  exact .inr (by omega)
 rcases h3 with h3|h3
 ·have h4:g*B≤4294967296*B:=Af hg (by omega)
  have h5:4294967296*B≤(top*4294967296+d2)*B:=Af (by omega) (by omega)
  have h6:=h.d0
  grind
 omega
structure ie(U0:Int)(d u q:List Int)(m k:Nat):Prop where
 hul:u.length=m+d.length
 hql:q.length=m
 hud:Fm u
 hqd:Fm q
 hk:k≤m
 hv:U0=CX (q.drop k)*DQ k*CX d+CX u
 hb:CX u<CX d*DQ k
theorem lK{u d:List Int}{m:Nat}(hu:Fm u)(hl:u.length=m+d.length)(hb:CX u<CX d*DQ m):ie (CX u) d u (List.replicate m 0) m m where
 hul:=hl
 hql:=Am
 hud:=hu
 hqd:=KT m
 hk:=A5 _
 hv:=by rw[O0 (by rw[Am];exact A5 _)];omega
 hb:=hb
theorem Xn{u:List Int}{j n:Nat}(hu:Fm u)(hn:j+n≤u.length)(hb:CX u<DQ (j+n)):CX u=CX (u.take j)+DQ j*Ee u j n∧CX (u.drop (j+n))=0:=by
 have e1:=LJ u j (by omega)
 have e2:=LJ (u.drop j) n (by rw[AD];omega)
 rw[List.drop_drop]at e2
 have h0:=DR (hu.drop (j+n))
 have h1:=DR (hu.take j)
 have h2:=DR ((hu.drop j).take n)
 have hj:=F9 j
 have hz:CX (u.drop (j+n))=0:=by
  refine Aj fun hc=>?_
  have h3:DQ n*1≤DQ n*CX (u.drop (j+n)):=Ac (by omega) (by have:=F9 n;omega)
  have h4:DQ j*(DQ n*1)≤DQ j*CX (u.drop j):=Ac (by omega) (by omega)
  rw[K6]at hb
  rw[AZ]at h4
  omega
 refine⟨?_,hz⟩
 rw[e1,e2,hz,Int.mul_zero,Ba]
 rfl
section step
variable {U0:Int} {d u q:List Int} {m j:Nat} (hd:Fm d) (h:ie U0 d u q m (j+1)) (hn:2≤d.length) (hD:0<CX d)
include hd h hn hD
omit hD in
theorem lE:CX u=CX (u.take j)+DQ j*Ee u j (d.length+1)∧0≤Ee u j (d.length+1)∧Ee u j (d.length+1)<CX d*4294967296∧0≤CX (u.take j)∧CX (u.take j)<DQ j:=by
 have hl:=h.hul
 have hk:=h.hk
 have hb:=h.hb
 have hdl:=FJ hd
 have hj:=F9 j
 have hB:CX u<DQ (j+(d.length+1)):=by
  have h1:CX d*DQ (j+1)≤DQ d.length*DQ (j+1):=Af (by omega) (by have:=F9 (j+1);omega)
  rw[←K6,show d.length+(j+1)=j+(d.length+1) by omega]at h1
  omega
 obtain⟨e,_⟩:=Xn h.hud (by omega) hB
 have h0:=DR (h.hud.take j)
 have h1:=FJ (h.hud.take j)
 rw[A9,At (by omega)]at h1
 have hs:=LY h.hud j (d.length+1) (by omega)
 refine⟨e,hs.1,?_,h0,h1⟩
 refine Aj fun hc=>?_
 have h2:DQ j*(CX d*4294967296)≤DQ j*Ee u j (d.length+1):=Ac (by omega) (by omega)
 rw[F7]at hb
 have e3:CX d*(4294967296*DQ j)=DQ j*(CX d*4294967296):=by grind
 omega
omit hD in
theorem rj{N:Nat}(hN:d.length=N+2)(ht:2147483648≤d.getD (N+1) 0):Vf (Ee u j (d.length+1)) (CX d) (DQ N) (u.getD (j+(N+2)) 0*4294967296+u.getD (j+(N+1)) 0) (d.getD (N+1) 0) (d.getD N 0) (u.getD (j+N) 0):=by
 have hl:=h.hul
 have hk:=h.hk
 obtain⟨e,w0,w1,_,_⟩:=lE hd h hn
 have x0:=h.hud.at (k:=j+N) (by omega)
 have y0:=hd.at (k:=N) (by omega)
 have y1:=hd.at (k:=N+1) (by omega)
 have hs:=LY h.hud j N (by omega)
 have hB:=F9 N
 have e1:Ee u j (d.length+1)=Ee u j N+DQ N*(u.getD (j+N) 0+4294967296*(u.getD (j+(N+1)) 0+4294967296*u.getD (j+(N+2)) 0)):=by
  rw[hN,It (by omega),It (by omega),It (by omega),F7 (N+1),F7 N]
  generalize Ee u j N=s
  generalize DQ N=B
  grind
 have e2:CX d=CX (d.take N)+DQ N*(d.getD N 0+4294967296*d.getD (N+1) 0):=by
  have h1:=F4 (l:=d) (k:=N) (by omega)
  have h2:=F4 (l:=d) (k:=N+1) (by omega)
  rw[show N+1+1=d.length by omega,AI,F7,h1]at h2
  rw[h2]
  generalize CX (d.take N)=s
  generalize DQ N=B
  grind
 have t0:=DR (hd.take N)
 have t1:=FJ (hd.take N)
 rw[A9,At (by omega)]at t1
 refine⟨hB,?_,?_,?_,?_,⟨ht,y1.2⟩,y0,x0,w0,w1⟩
 ·rw[e1]
  generalize Ee u j N=s at*
  generalize DQ N=B at*
  grind
 ·rw[e1]
  generalize Ee u j N=s at*
  generalize DQ N=B at*
  grind
 ·rw[e2]
  generalize CX (d.take N)=s at*
  generalize DQ N=B at*
  grind
 rw[e2]
 generalize CX (d.take N)=s at*
 generalize DQ N=B at*
 grind
theorem lJ:ie U0 d (L6 u j (d.length+1) (Ee u j (d.length+1) % CX d)) (q.set j (Ee u j (d.length+1)/CX d)) m j∧0≤Ee u j (d.length+1)/CX d∧Ee u j (d.length+1)/CX d<4294967296:=by
 have hl:=h.hul
 have hql:=h.hql
 have hk:=h.hk
 obtain⟨e,w0,w1,l0,l1⟩:=lE hd h hn
 have hdl:=FJ hd
 have hj:=F9 j
 have q0:0≤Ee u j (d.length+1)/CX d:=AY w0 (by omega)
 have q1:Ee u j (d.length+1)/CX d<4294967296:=Bb hD (by rw[Ab];exact w1)
 have m0:=Ay (Ee u j (d.length+1)) (show CX d≠0 by omega)
 have m1:=AB (Ee u j (d.length+1)) hD
 have ew:=AR (Ee u j (d.length+1)) (CX d)
 have hwn:DQ d.length≤DQ (d.length+1):=G2 (by omega)
 have pm:=mh (u:=u) (j:=j) (n:=d.length+1) (v:=Ee u j (d.length+1) % CX d) (by omega) m0 (by omega)
 have hv:=h.hv
 refine⟨⟨by rw[Gv (by omega)];exact hl,by rw[Aa];exact hql,RO h.hud _ _ _,h.hqd.set ⟨q0,q1⟩,by omega,?_,?_⟩,q0,q1⟩
 ·rw[pm,Mk (l:=q.set j _) (by rw[Aa];omega),Pt (by omega),Hu (by omega),hv,F7]
  generalize Ee u j (d.length+1)/CX d=Q at*
  generalize Ee u j (d.length+1) % CX d=R at*
  generalize Ee u j (d.length+1)=W at*
  generalize CX (q.drop (j+1))=P at*
  generalize CX d=D at*
  generalize DQ j=B at*
  generalize CX u=M at*
  grind
 rw[pm,e]
 have:DQ j*(Ee u j (d.length+1) % CX d)≤DQ j*(CX d-1):=Ac (by omega) (by omega)
 generalize Ee u j (d.length+1) % CX d=R at*
 generalize Ee u j (d.length+1)=W at*
 generalize CX d=D at*
 generalize DQ j=B at*
 grind
omit hd h hn in
theorem ke{g:Int}(hw:Ee u j (d.length+1)<CX d*4294967296)(hs0:0≤Ee u j (d.length+1))(hq:Ee u j (d.length+1)/CX d≤g)(hg:g≤Ee u j (d.length+1)/CX d+1):(LI u d j g<0↔g=Ee u j (d.length+1)/CX d+1)∧(¬LI u d j g<0→g=Ee u j (d.length+1)/CX d∧LI u d j g=Ee u j (d.length+1) % CX d)∧(LI u d j g<0→LI u d j g=Ee u j (d.length+1) % CX d-CX d):=by
 have ew:=AR (Ee u j (d.length+1)) (CX d)
 have m0:=Ay (Ee u j (d.length+1)) (show CX d≠0 by omega)
 have m1:=AB (Ee u j (d.length+1)) hD
 unfold LI
 generalize Ee u j (d.length+1)/CX d=Q at*
 generalize Ee u j (d.length+1) % CX d=R at*
 generalize Ee u j (d.length+1)=W at*
 have hcase:g=Q∨g=Q+1:=by omega
 rcases hcase with hc|hc
 ·subst hc
  have e:W-g*CX d=R:=by rw[←ew,Ab];omega
  rw[e]
  exact⟨by omega,fun _=>⟨rfl,rfl⟩,fun h=>by omega⟩
 subst hc
 have e:W-(Q+1)*CX d=R-CX d:=by rw[←ew,AJ,Ab];omega
 rw[e]
 exact⟨by omega,fun h=>by omega,fun _=>rfl⟩
omit hd h hn hD in
theorem Qf{g:Int}(hul:j+d.length<u.length)(hV: ¬LI u d j g<0)(e:LI u d j g=Ee u j (d.length+1) % CX d):Sm u d j g=L6 u j (d.length+1) (Ee u j (d.length+1) % CX d):=by
 unfold Sm
 rw[if_neg hV,e,Ba]
omit h hn in
theorem O9{g:Int}(hud:Fm u)(hul:j+d.length<u.length)(hV:LI u d j g<0)(e:LI u d j g=Ee u j (d.length+1) % CX d-CX d):ez (Sm u d j g) d j=L6 u j (d.length+1) (Ee u j (d.length+1) % CX d):=by
 have m0:=Ay (Ee u j (d.length+1)) (show CX d≠0 by omega)
 have m1:=AB (Ee u j (d.length+1)) hD
 have hdl:=FJ hd
 have hwn:DQ d.length≤DQ (d.length+1):=G2 (by omega)
 unfold ez Sm
 rw[if_pos hV,e]
 generalize hR:Ee u j (d.length+1) % CX d=R at*
 have hlen:=Gv (u:=u) (j:=j) (n:=d.length+1) (v:=R-CX d+DQ (d.length+1)) (by omega)
 have hs:Ee (L6 u j (d.length+1) (R-CX d+DQ (d.length+1))) j (d.length+1)=R-CX d+DQ (d.length+1):=by
  unfold Ee L6
  rw[List.drop_append_of_le_length (by rw[A9];omega),BK (by rw[A9];omega),Ck,CP (by rw[IG];omega),AN (by rw[IG];omega),NH (by omega) (by omega)]
 rw[hs,show R-CX d+DQ (d.length+1)+CX d=R+DQ (d.length+1) by omega,Int.add_emod_right,AV m0 (by omega)]
 unfold L6
 rw[CP (by rw[A9];omega),List.take_take,Nat.min_self]
 congr 2
 rw[←Bg,List.drop_append_of_le_length (by rw[As,A9,IG];omega),BK (by rw[As,A9,IG];omega),Ck]
end step
theorem lH{U0:Int}{d u q:List Int}{m:Nat}(hd:Fm d)(h:ie U0 d u q m 0)(hD:0<CX d):CX q=U0/CX d∧CX (u.take d.length)=U0 % CX d∧Fm (u.take d.length):=by
 have hv:=h.hv
 have hb:=h.hb
 have hl:=h.hul
 rw[B7,JH,AZ]at hv
 rw[JH,AZ]at hb
 have h0:=DR h.hud
 have hdl:=FJ hd
 obtain⟨e,hz⟩:=Xn (j:=0) (n:=d.length) h.hud (by omega) (by rw[Aq];omega)
 rw[Bi,JH,AK]at e
 have e2:CX (u.take d.length)=CX u:=by
  rw[e]
  show _=0+Ee u 0 d.length
  unfold Ee
  rw[B7];omega
 rw[e2,hv,BU]
 refine⟨?_,?_,h.hud.take _⟩
 ·rw[CF _ _ (by omega),Bv h0 hb];omega
 rw[CH,AV h0 hb]
structure Nu where
 a:Int
 b:Int
 c:Int
 d:Int
 p:Int
 q:Int
def MC(x y:Int):Nu:=⟨1,0,0,1,x,y⟩
def GN(s:Nu):Int:=(s.p+s.a).tdiv (s.q+s.c)
def Ja(s:Nu):Int:=s.a-GN s*s.c
def Jb(s:Nu):Int:=s.b-GN s*s.d
def HM(s:Nu):Bool:=decide (s.q+s.c≠0)&&decide (s.q+s.d≠0)&&decide (GN s=(s.p+s.b).tdiv (s.q+s.d))&& !(decide (1073741824<Ja s)||decide (Ja s< -1073741824)||decide (1073741824<Jb s)||decide (Jb s< -1073741824))
def Ku(s:Nu):Nu:=⟨s.c,s.d,Ja s,Jb s,s.q,s.p-GN s*s.q⟩
def N6:Nat→Nu→Nu
 |0,s=>s
 |n+1,s=>if HM s=true then N6 n (Ku s)else s
structure TA(X Y x y E:Int)(s:Nu)(g A B C D:Int):Prop where
 g1:g=1∨g= -1
 A0:0≤A∧A≤1073741824
 B0:0≤B∧B≤1073741824
 C0:0≤C∧C≤1073741824
 D0:1≤D∧D≤1073741824
 ea:s.a=g*A
 eb:s.b= -(g*B)
 ec:s.c= -(g*C)
 ed:s.d=g*D
 ep:s.p=g*(A*x-B*y)
 eq:s.q=g*(D*y-C*x)
 ex:x=D*s.p+B*s.q
 ey:y=C*s.p+A*s.q
 p0:0≤s.p
 q0:0≤s.q
 pa:0≤s.p+s.a
 pb:0≤s.p+s.b
 qc:0≤s.q+s.c
 qd:0≤s.q+s.d
 v0:0≤s.c*X+s.d*Y
 u0:0≤s.a*X+s.b*Y
 uv:s.c*X+s.d*Y≤s.a*X+s.b*Y
 gcd:Int.gcd (s.a*X+s.b*Y) (s.c*X+s.d*Y)=Int.gcd X Y
 vY:s.c*X+s.d*Y≤Y
 pr:s=MC x y∨(s.b≠0∧s.c*X+s.d*Y<Y)
structure Yf(X Y x y E:Int):Prop where
 E0:1≤E
 x0:x*E≤X
 x1:X<(x+1)*E
 y0:y*E≤Y
 y1:Y<(y+1)*E
 yx:Y≤X
 Y0:0≤Y
 xp:0≤y∧y≤x
 xb:x<4611686018427387904
theorem Wj{X Y x y E:Int}(h:Yf X Y x y E):TA X Y x y E (MC x y) 1 1 0 0 1:=by
 have h1:=h.yx
 have h2:=h.Y0
 have h3:=h.xp
 have e1:(MC x y).c*X+(MC x y).d*Y=Y:=by show 0*X+1*Y=Y;omega
 have e2:(MC x y).a*X+(MC x y).b*Y=X:=by show 1*X+0*Y=X;omega
 refine⟨.inl rfl,by omega,by omega,by omega,by omega,rfl,rfl,rfl,rfl,?_,?_,?_,?_,?_,?_,?_,?_,?_,?_,by rw[e1];omega,by rw[e2];omega,by rw[e1,e2];omega,by rw[e1,e2],by rw[e1];omega,.inl rfl⟩
 ·show x=1*(1*x-0*y);omega
 ·show y=1*(1*y-0*x);omega
 ·show x=1*x+0*y;omega
 ·show y=0*x+1*y;omega
 ·show 0≤x;omega
 ·show 0≤y;omega
 ·show 0≤x+1;omega
 ·show 0≤x+0;omega
 ·show 0≤y+0;omega
 show 0≤y+1;omega
theorem bb{X Y x y E:Int}{s:Nu}{g A B C D:Int}(h:Yf X Y x y E)(i:TA X Y x y E s g A B C D):
  (g=1∧(s.p+s.b)*E≤s.a*X+s.b*Y∧s.a*X+s.b*Y≤(s.p+s.a)*E∧(s.q+s.c)*E≤s.c*X+s.d*Y∧s.c*X+s.d*Y≤(s.q+s.d)*E∧s.p+s.b≤s.p∧s.q≤s.q+s.d)∨
  (g= -1∧(s.p+s.a)*E≤s.a*X+s.b*Y∧s.a*X+s.b*Y≤(s.p+s.b)*E∧(s.q+s.d)*E≤s.c*X+s.d*Y∧s.c*X+s.d*Y≤(s.q+s.c)*E∧s.p+s.a≤s.p∧s.q≤s.q+s.c):=by
 obtain⟨xi,hxi⟩: ∃ xi,xi=X-x*E:=⟨_,rfl⟩
 obtain⟨et,het⟩: ∃ et,et=Y-y*E:=⟨_,rfl⟩
 have x0:=h.x0
 have x1:=h.x1
 have y0:=h.y0
 have y1:=h.y1
 have E0:=h.E0
 rw[AJ,AK]at x1 y1
 have a1:0≤xi∧xi≤E:=by omega
 have a2:0≤et∧et≤E:=by omega
 have eX:X=x*E+xi:=by omega
 have eY:Y=y*E+et:=by omega
 have A0:=i.A0.1
 have B0:=i.B0.1
 have C0:=i.C0.1
 have D0:=i.D0.1
 have mA:=Ae A0 a1.1
 have mA2:=Ac a1.2 A0
 have mB:=Ae B0 a2.1
 have mB2:=Ac a2.2 B0
 have mC:=Ae C0 a1.1
 have mC2:=Ac a1.2 C0
 have mD:=Ae (show 0≤D by omega) a2.1
 have mD2:=Ac a2.2 (show 0≤D by omega)
 have hp:=i.ep
 have hq:=i.eq
 have ea:=i.ea
 have eb:=i.eb
 have ec:=i.ec
 have ed:=i.ed
 have hg:=i.g1
 clear i h hxi het x0 x1 y0 y1
 rcases hg with hg|hg
 ·left
  subst hg
  rw[AK]at ea eb ec ed hp hq
  rw[hp,hq,ea,eb,ec,ed,eX,eY]
  refine⟨rfl,?_,?_,?_,?_,by omega,by omega⟩<;>grind
 right
 subst hg
 have ea':s.a= -A:=by omega
 have eb':s.b=B:=by omega
 have ec':s.c=C:=by omega
 have ed':s.d= -D:=by omega
 have hp':s.p=B*y-A*x:=by omega
 have hq':s.q=C*x-D*y:=by omega
 rw[hp',hq',ea',eb',ec',ed',eX,eY]
 refine⟨rfl,?_,?_,?_,?_,by omega,by omega⟩<;>grind
theorem vE{s:Nu}(h:HM s=true):s.q+s.c≠0∧s.q+s.d≠0∧GN s=(s.p+s.b).tdiv (s.q+s.d)∧ -1073741824≤Ja s∧Ja s≤1073741824∧ -1073741824≤Jb s∧Jb s≤1073741824:=by
 unfold HM at h
 simp only[Ao,Cu,AQ,decide_eq_true_eq,decide_eq_false_iff_not]at h
 obtain⟨⟨⟨h1,h2⟩,h3⟩,⟨⟨h4,h5⟩,h6⟩,h7⟩:=h
 exact⟨h1,h2,h3,by omega,by omega,by omega,by omega⟩
theorem NI{P Q n:Int}(hP:0≤P)(hQ:0<Q)(hn:n=P.tdiv Q):0≤n∧n*Q≤P∧P<(n+1)*Q:=by
 rw[Cw hP]at hn
 have e:=AR P Q
 have m0:=Ay P (show Q≠0 by omega)
 have m1:=AB P hQ
 have n0:0≤n:=by rw[hn];exact AY hP (by omega)
 rw[←hn,Ab]at e
 refine⟨n0,by omega,?_⟩
 rw[AJ,AK]
 omega
theorem Wi {X Y x y E : Int} {s : Nu} {g A B C D : Int} (h : Yf X Y x y E) (i : TA X Y x y E s g A B C D) (hgo : HM s = true) :
  ∃ n : Int, 1 ≤ n ∧ n = GN s ∧ TA X Y x y E (Ku s) (-g) C D (A + n * C) (B + n * D) ∧ (Ku s).c * X + (Ku s).d * Y < s.c * X + s.d * Y := by
 obtain ⟨c1, c2, c3, c4, c5, c6, c7⟩ := vE hgo
 have qc := i.qc
 have qd := i.qd
 have E0 := h.E0
 obtain ⟨n, hn⟩ : ∃ n, n = GN s := ⟨_, rfl⟩
 obtain ⟨n0, n1, n2⟩ := NI (Q := s.q + s.c) i.pa (by omega) (show n = (s.p + s.a).tdiv (s.q + s.c) from hn)
 obtain ⟨_, n3, n4⟩ := NI (Q := s.q + s.d) i.pb (by omega) (show n = (s.p + s.b).tdiv (s.q + s.d) by rw [hn]; exact c3)
 have eE : Ja s = g * (A + n * C) := by
  unfold Ja
  rw [← hn, i.ea, i.ec]
  grind
 have eF : Jb s = -(g * (B + n * D)) := by
  unfold Jb
  rw [← hn, i.eb, i.ed]
  grind
 have hnC := Ae n0 i.C0.1
 have hnD := Ae n0 (show 0 ≤ D by have := i.D0; omega)
 have q0 := i.q0
 have p0 := i.p0
 have uv := i.uv
 have v0 := i.v0
 have rng := bb h i
 have A0 := i.A0
 have B0 := i.B0
 have C0 := i.C0
 have D0 := i.D0
 -- the new v
 have ev : Ja s * X + Jb s * Y = (s.a * X + s.b * Y) - n * (s.c * X + s.d * Y) := by
  unfold Ja Jb
  rw [← hn]
  grind
 obtain ⟨u, hu⟩ : ∃ u, u = s.a * X + s.b * Y := ⟨_, rfl⟩
 obtain ⟨v, hv⟩ : ∃ v, v = s.c * X + s.d * Y := ⟨_, rfl⟩
 rw [← hu, ← hv] at rng uv
 rw [← hv] at v0
 rw [← hu, ← hv] at ev
 have key : 0 ≤ u - n * v ∧ u < (n + 1) * v ∧ 1 ≤ n ∧ n * s.q ≤ s.p := by
  rcases rng with ⟨_, r1, r2, r3, r4, r5, r6⟩ | ⟨_, r1, r2, r3, r4, r5, r6⟩
  ·have k1 : n * v ≤ n * ((s.q + s.d) * E) := Ac r4 n0
   have k2 : n * (s.q + s.d) * E ≤ (s.p + s.b) * E := Af n3 (by omega)
   have k3 : (s.p + s.a + 1) * E ≤ (n + 1) * (s.q + s.c) * E := Af (by omega) (by omega)
   have k4 : (n + 1) * ((s.q + s.c) * E) ≤ (n + 1) * v := Ac r3 (by omega)
   have k5 : n * s.q ≤ n * (s.q + s.d) := Ac r6 n0
   rw [Aw] at k2 k3
   rw [AJ (s.p + s.a) 1, AK] at k3
   refine ⟨by omega, by omega, ?_, by omega⟩
   refine Aj fun hc => ?_
   have e0 : n = 0 := by omega
   rw [e0, Int.zero_add, AK] at n2
   have k6 : (s.p + s.a + 1) * E ≤ (s.q + s.c) * E := Af (by omega) (by omega)
   rw [AJ (s.p + s.a) 1, AK] at k6
   omega
  have k1 : n * v ≤ n * ((s.q + s.c) * E) := Ac r4 n0
  have k2 : n * (s.q + s.c) * E ≤ (s.p + s.a) * E := Af n1 (by omega)
  have k3 : (s.p + s.b + 1) * E ≤ (n + 1) * (s.q + s.d) * E := Af (by omega) (by omega)
  have k4 : (n + 1) * ((s.q + s.d) * E) ≤ (n + 1) * v := Ac r3 (by omega)
  have k5 : n * s.q ≤ n * (s.q + s.c) := Ac r6 n0
  rw [Aw] at k2 k3
  rw [AJ (s.p + s.b) 1, AK] at k3
  refine ⟨by omega, by omega, ?_, by omega⟩
  refine Aj fun hc => ?_
  have e0 : n = 0 := by omega
  rw [e0, Int.zero_add, AK] at n4
  have k6 : (s.p + s.b + 1) * E ≤ (s.q + s.d) * E := Af (by omega) (by omega)
  rw [AJ (s.p + s.b) 1, AK] at k6
  omega
 obtain ⟨y1, y2, y3, y4⟩ := key
 rw [AJ, AK] at y2
 have hg := i.g1
 have vY := i.vY
 rw [← hv] at vY
 have hDn : D ≤ n * D := by
  have := Af y3 (show 0 ≤ D by omega)
  omega
 have bE : A + n * C ≤ 1073741824 := by
  rw [eE] at c4 c5
  rcases hg with hg | hg <;> rw [hg] at c4 c5 <;> omega
 have bF : B + n * D ≤ 1073741824 := by
  rw [eF] at c6 c7
  rcases hg with hg | hg <;> rw [hg] at c6 c7 <;> omega
 have eN : (Ku s).q = s.p - n * s.q := by rw [hn]; rfl
 have hgcd := i.gcd
 rw [← hu, ← hv] at hgcd
 refine ⟨n, y3, hn, ⟨by omega, C0, ⟨by omega, D0.2⟩, ⟨by omega, bE⟩, ⟨by omega, bF⟩, ?_, ?_, ?_, ?_, ?_, ?_, ?_, ?_, q0, ?_, qc, qd, ?_, ?_, ?_, ?_, ?_, ?_, ?_, ?_⟩, ?_⟩
 ·show s.c = _; rw [i.ec]; grind
 ·show s.d = _; rw [i.ed]; grind
 ·show Ja s = _; rw [eE]; grind
 ·show Jb s = _; rw [eF]; grind
 ·show s.q = _; rw [i.eq]; grind
 ·rw [eN, i.ep, i.eq]; grind
 ·have := i.ex
  show x = (B + n * D) * s.q + D * (Ku s).q
  rw [eN]
  grind
 ·have := i.ey
  show y = (A + n * C) * s.q + C * (Ku s).q
  rw [eN]
  grind
 ·rw [eN]; omega
 ·show 0 ≤ (Ku s).q + Ja s
  rw [eN]
  unfold Ja
  rw [← hn]
  grind
 ·show 0 ≤ (Ku s).q + Jb s
  rw [eN]
  unfold Jb
  rw [← hn]
  grind
 ·show 0 ≤ Ja s * X + Jb s * Y
  omega
 ·show 0 ≤ s.c * X + s.d * Y
  omega
 ·show Ja s * X + Jb s * Y ≤ s.c * X + s.d * Y
  omega
 ·show Int.gcd (s.c * X + s.d * Y) (Ja s * X + Jb s * Y) = Int.gcd X Y
  rw [ev, ← hv, ← hgcd, Int.gcd_comm u v]
  have := Int.gcd_sub_mul_right_right v u n
  first | exact this | (rw [Ab] at this; exact this)
 ·show Ja s * X + Jb s * Y ≤ Y
  omega
 ·right
  refine ⟨?_, ?_⟩
  ·show s.d ≠ 0
   rw [i.ed]
   rcases hg with hg | hg <;> rw [hg] <;> omega
  show Ja s * X + Jb s * Y < Y
  omega
 show Ja s * X + Jb s * Y < s.c * X + s.d * Y
 omega
theorem ba{X Y x y E:Int}(h:Yf X Y x y E): ∀ (F:Nat) {s:Nu} {g A B C D:Int},TA X Y x y E s g A B C D→ ∃ g A B C D,TA X Y x y E (N6 F s) g A B C D
 |0,s,g,A,B,C,D,i=>⟨g,A,B,C,D,i⟩
 |F+1,s,g,A,B,C,D,i=>by
  rw[N6]
  split
  ·rename_i hgo
   obtain⟨n,_,_,i2,_⟩:=Wi h i hgo
   exact ba h F i2
  exact⟨g,A,B,C,D,i⟩
theorem dV{s:Nu}(h:HM s=false): ∀ F,N6 F s=s
 |0=>rfl
 |F+1=>by rw[N6,if_neg (by rw[h];decide)]
theorem a0A(z:Int):IntKind.u32.wrap (IntKind.u64.wrap z)=z % 4294967296:=by
 rw[Ls,Nt]
 omega
theorem qp{g x:Int}(h0:0≤g)(h1:g≤4294967296)(hx:0≤x∧x<4294967296):0≤g*x∧g*x≤18446744069414584320:=⟨Ae h0 hx.1,Bc h1 (show x≤4294967295 by omega) hx.1 (by omega)⟩
theorem YS{a:Nat}(h:a<18446744073709551616):(CR a).length≤2:=by
 refine Hx (k:=2) ?_
 show(a:Int)<4294967296^2
 have:(4294967296:Int)^2=18446744073709551616:=by decide
 rw[this]
 omega
theorem N7{x y:Nat}(h:x≤y):(CR x).length≤(CR y).length:=by
 refine Aj fun hc=>?_
 have:=NT (x:=y) (y:=x) (by omega)
 omega
theorem T5{x y:Nat}:(CR (x*y)).length≤(CR x).length+(CR y).length:=by
 refine Hx ?_
 have h1:=FJ (D8 x)
 have h2:=FJ (D8 y)
 have h3:=DR (D8 x)
 have h4:=DR (D8 y)
 rw[Dt]at h1 h2 h3 h4
 rw[K6,Ad]
 have hp:=F9 (CR y).length
 have h5:(x:Int)*y≤(DQ (CR x).length-1)*(y:Int):=Af (by omega) h4
 have h6:(DQ (CR x).length-1)*(y:Int)≤(DQ (CR x).length-1)*(DQ (CR y).length-1):=Ac (by omega) (by omega)
 have h7:(DQ (CR x).length-1)*(DQ (CR y).length-1)<DQ (CR x).length*DQ (CR y).length:=by
  have h8:=F9 (CR x).length
  generalize DQ (CR x).length=A at*
  generalize DQ (CR y).length=B at*
  have:(A-1)*(B-1)=A*B-A-B+1:=by grind
  omega
 omega
theorem Ox{X a:Nat}:(CX (CR X)*CX (CR a)).toNat=X*a:=by
 rw[Dt,Dt,←Ad,Ar]
theorem cF{X a:Nat}(h:(CR a).length≤2)(hX:(CR X).length≤100000000000):(CR (CX (CR X)*CX (CR a)).toNat).length≤250000000000:=by
 rw[Ox]
 have:= @T5 X a
 omega
theorem nB{X Y a b:Nat}(h:b*Y≤a*X):(CR (CX (CR Y)*CX (CR b)).toNat).length≤(CR (CX (CR X)*CX (CR a)).toNat).length∧CX (CR (CX (CR Y)*CX (CR b)).toNat)≤CX (CR (CX (CR X)*CX (CR a)).toNat):=by
 rw[Ox,Ox,Dt,Dt,AP Y,AP X]
 exact⟨N7 h,BX.2 h⟩
theorem sg{X Y a b:Nat}(h:b*Y≤a*X):(CX (CR (CX (CR X)*CX (CR a)).toNat) -CX (CR (CX (CR Y)*CX (CR b)).toNat)).toNat=a*X-b*Y:=by
 rw[Ox,Ox,Dt,Dt,AP Y,AP X]
 omega
theorem sZ{z:Int}(z0:0≤z)(z1:z<4294967296):bl z.toNat≤32:=by
 unfold bl
 split
 ·omega
 have:z.toNat.log2<32:=(Nat.log2_lt (by assumption)).2 (by omega)
 omega
structure Yl(x y:Int)(F:Nat)(s:Nu):Prop where
 i: ∃ g A B C D,TA x y x y 1 s g A B C D
 e:N6 F s=N6 (y.toNat+1) (MC x y)
 f:s.q<F
theorem Rm{x y:Int}(h0:0≤y)(h1:y≤x)(h2:x<4611686018427387904):Yf x y x y 1:=⟨by omega,by omega,by omega,by omega,by omega,h1,h0,⟨h0,h1⟩,h2⟩
theorem nL{x y:Int}(h0:0≤y)(h1:y≤x)(h2:x<4611686018427387904):Yl x y (y.toNat+1) (MC x y):=⟨⟨_,_,_,_,_,Wj (Rm h0 h1 h2)⟩,rfl,by show y<_;omega⟩
structure a12(s:Nu):Prop where
 a: -1073741824≤s.a∧s.a≤1073741824
 b: -1073741824≤s.b∧s.b≤1073741824
 c: -1073741824≤s.c∧s.c≤1073741824
 d: -1073741824≤s.d∧s.d≤1073741824
 p:0≤s.p∧s.p<4611686018427387904
 q:0≤s.q∧s.q≤s.p
 pa:0≤s.p+s.a
 pb:0≤s.p+s.b
 qc:0≤s.q+s.c
 qd:0≤s.q+s.d
theorem k7{x y:Int}{s:Nu}{g A B C D:Int}(i:TA x y x y 1 s g A B C D):s.a*x+s.b*y=s.p∧s.c*x+s.d*y=s.q:=by
 rw[i.ep,i.eq,i.ea,i.eb,i.ec,i.ed]
 constructor<;>grind
theorem nJ{x y:Int}{F:Nat}{s:Nu}(h2:x<4611686018427387904)(h:Yl x y F s):a12 s:=by
 obtain⟨g,A,B,C,D,i⟩:=h.i
 obtain⟨e1,e2⟩:=k7 i
 have uv:=i.uv
 rw[e1,e2]at uv
 have A0:=i.A0
 have B0:=i.B0
 have C0:=i.C0
 have D0:=i.D0
 have ex:=i.ex
 have p0:=i.p0
 have q0:=i.q0
 have h3:s.p≤D*s.p:=by
  have:=Af D0.1 p0
  omega
 have h4:=Ae B0.1 q0
 refine⟨?_,?_,?_,?_,⟨p0,by omega⟩,⟨q0,uv⟩,i.pa,i.pb,i.qc,i.qd⟩
 ·rw[i.ea];rcases i.g1 with hg|hg<;>rw[hg]<;>omega
 ·rw[i.eb];rcases i.g1 with hg|hg<;>rw[hg]<;>omega
 ·rw[i.ec];rcases i.g1 with hg|hg<;>rw[hg]<;>omega
 rw[i.ed];rcases i.g1 with hg|hg<;>rw[hg]<;>omega
theorem tE{P Q:Int}(hP:0≤P∧P<4611686019501129729)(hQ:0<Q): -9223372036854775808≤P.tdiv Q∧P.tdiv Q≤9223372036854775807:=by
 obtain⟨n0,n1,n2⟩:=NI hP.1 hQ rfl
 have:P.tdiv Q*1≤P.tdiv Q*Q:=Ac (by omega) n0
 omega
theorem a0k{x y:Int}{F:Nat}{s:Nu}(h2:x<4611686018427387904)(hyx:y≤x)(h:Yl x y F s)(c1:s.q+s.c≠0)(c2:s.q+s.d≠0)(c3:GN s=(s.p+s.b).tdiv (s.q+s.d)):
  (-9000000000000000000≤GN s*s.c∧GN s*s.c≤9000000000000000000)∧(-9000000000000000000≤GN s*s.d∧GN s*s.d≤9000000000000000000)∧0≤GN s*s.q∧GN s*s.q≤s.p:=by
 have hb:=nJ h2 h
 obtain⟨g,A,B,C,D,i⟩:=h.i
 have qc:=hb.qc
 have qd:=hb.qd
 obtain⟨n0,n1,n2⟩:=NI (n:=GN s) hb.pa (show 0<s.q+s.c by omega) rfl
 obtain⟨_,n3,n4⟩:=NI (n:=GN s) hb.pb (show 0<s.q+s.d by omega) c3
 have k1:GN s*1≤GN s*(s.q+s.c):=Ac (by omega) n0
 have k2:GN s*1≤GN s*(s.q+s.d):=Ac (by omega) n0
 have A0:=i.A0
 have B0:=i.B0
 have C0:=i.C0
 have D0:=i.D0
 have ex:=i.ex
 have ey:=i.ey
 have p0:=hb.p
 have q0:=hb.q
 have a0:=hb.a
 have b0:=hb.b
 have z1:=Ae B0.1 q0.1
 have z2:=Ae A0.1 q0.1
 have m1:C*GN s≤C*(s.p+1073741824):=Ac (by omega) C0.1
 have m2:D*GN s≤D*(s.p+1073741824):=Ac (by omega) (by omega)
 have m3:C*1073741824≤1073741824*1073741824:=Af C0.2 (by omega)
 have m4:D*1073741824≤1073741824*1073741824:=Af D0.2 (by omega)
 rw[Al]at m1 m2
 have w1:=Ae C0.1 n0
 have w2:=Ae (show 0≤D by omega) n0
 have nq:0≤GN s*s.q:=Ae n0 q0.1
 have np:GN s*s.q≤s.p:=by
  have hq:=bb (Rm (x:=x) (y:=y) (by have:=i.ey;have:=Ae C0.1 p0.1;omega) hyx h2) i
  rcases hq with ⟨_,r1,r2,r3,r4,r5,r6⟩|⟨_,r1,r2,r3,r4,r5,r6⟩
  ·have:=Ac r6 n0
   omega
  have:=Ac r6 n0
  omega
 refine⟨?_,?_,nq,np⟩
 ·rw[i.ec]
  have e:GN s* -(g*C)= -(g*(C*GN s)):=by grind
  rw[e]
  rcases i.g1 with hg|hg<;>rw[hg]<;>omega
 rw[i.ed]
 have e:GN s*(g*D)=g*(D*GN s):=by grind
 rw[e]
 rcases i.g1 with hg|hg<;>rw[hg]<;>omega
theorem S7{x y:Int}{F:Nat}{s:Nu}(h:Yl x y F s)(hg:HM s=false):s=N6 (y.toNat+1) (MC x y):=by rw[←h.e,dV hg]
theorem nK{x y:Int}{F:Nat}{s:Nu}(h0:0≤y)(h1:y≤x)(h2:x<4611686018427387904)(h:Yl x y F s)(hg:HM s=true):Yl x y (F-1) (Ku s)∧(Ku s).q<s.q:=by
 obtain⟨g,A,B,C,D,i⟩:=h.i
 obtain⟨n,_,_,i2,hv⟩:=Wi (Rm h0 h1 h2) i hg
 have e1:=(k7 i).2
 have e2:=(k7 i2).2
 rw[e1,e2]at hv
 have q0:=i2.q0
 have hf:=h.f
 have he:=h.e
 obtain⟨G,hG⟩: ∃ G,F=G+1:=⟨F-1,by omega⟩
 subst hG
 refine⟨⟨⟨_,_,_,_,_,i2⟩,?_,by omega⟩,hv⟩
 rw[N6,if_pos hg]at he
 rw[←he]
 rfl
theorem vk{s:Nu}(h: ¬(s.q+s.c≠0∧s.q+s.d≠0)):HM s=false:=by
 unfold HM
 by_cases h1:s.q+s.c=0
 ·simp[h1]
 have h2:s.q+s.d=0:=Aj fun hc=>h ⟨h1,hc⟩
 simp[h2]
theorem vm{s:Nu}(h:GN s≠(s.p+s.b).tdiv (s.q+s.d)):HM s=false:=by
 unfold HM
 simp[h]
theorem vn{s:Nu}(h: ¬(-1073741824≤Ja s∧Ja s≤1073741824∧ -1073741824≤Jb s∧Jb s≤1073741824)):HM s=false:=by
 unfold HM
 rw[Bool.and_eq_false_iff]
 right
 rw[Bool.not_eq_false',Bm,Bm,Bm,decide_eq_true_eq,decide_eq_true_eq,decide_eq_true_eq,decide_eq_true_eq]
 omega
theorem vo{s:Nu}(c1:s.q+s.c≠0)(c2:s.q+s.d≠0)(c3:GN s=(s.p+s.b).tdiv (s.q+s.d))(h: -1073741824≤Ja s∧Ja s≤1073741824∧ -1073741824≤Jb s∧Jb s≤1073741824):HM s=true:=by
 unfold HM
 rw[Ao,Ao,Ao,decide_eq_true_eq,decide_eq_true_eq,decide_eq_true_eq,Cu,AQ,AQ,AQ,decide_eq_false_iff_not,decide_eq_false_iff_not,decide_eq_false_iff_not,decide_eq_false_iff_not]
 exact⟨⟨⟨c1,c2⟩,c3⟩,⟨⟨by omega,by omega⟩,by omega⟩,by omega⟩
theorem kO{X Y:Nat}{u v:Int}(h:0≤u*X+v*Y)(hu:0≤u)(hv:v≤0):(-v).toNat*Y≤u.toNat*X∧u.toNat*X-(-v).toNat*Y=(u*X+v*Y).toNat:=by
 have e1:((u.toNat*X:Nat):Int)=u*X:=by rw[Ad,Int.toNat_of_nonneg hu]
 have e2:(((-v).toNat*Y:Nat):Int)= -(v*Y):=by rw[Ad,Int.toNat_of_nonneg (by omega),Int.neg_mul]
 omega
structure hO(l:List Int)(k:Nat)(u:Int):Prop where
 hk:k≤l.length
 hu:u=CX (l.drop k)
theorem jV(l:List Int):hO l l.length 0:=⟨A5 _,(O0 (A5 _)).symm⟩
theorem jU{l:List Int}{j:Nat}{u:Int}(hl:Fm l)(hb:CX l<18446744073709551616)(h:hO l (j+1) u):hO l j (u*4294967296+l.getD j 0)∧0≤u∧u<4294967296:=by
 have hk:=h.hk
 have hu:=h.hu
 have e:=Mk (l:=l) (k:=j) (by omega)
 have e2:=LJ l j (by omega)
 have h1:=DR (hl.take j)
 have h2:=DR (hl.drop (j+1))
 have h3:=hl.at (k:=j) (by omega)
 have hp:=F9 j
 have h4:1*CX (l.drop j)≤DQ j*CX (l.drop j):=Af hp (by omega)
 refine⟨⟨by omega,by rw[e,hu];omega⟩,by omega,by omega⟩
theorem aY{X a:Nat}:(CX (CR X)/2^a).toNat=X/2^a:=by
 rw[Dt]
 have:(2:Int)^a=((2^a:Nat):Int):=by simp
 rw[this,←Bo,Ar]
def J0:Value→Nat→Value
 | .slice b _ c,k=> .slice b k c
 |v,_=>v
theorem VG(u:Value)(i k:Nat):J0 (J0 u i) k=J0 u k:=by
 unfold J0
 cases u<;>rfl
theorem dG{α:Type}{mk:α→SP}{u:Value}{xs:List α}{T:TypeId}: ∀ c ob,(DC u mk xs T).H c ob→J0 u xs.length=u:=fun c ob h=>by
 rcases h.2 with ⟨h2,h3,_⟩|⟨b,cap,cur,h2,h3,_⟩
 ·rw[h2,h3];rfl
 rw[h2];rfl
theorem US{α:Type}{mk:α→SP}{u:Value}{xs:List α}{T:TypeId}{k:Nat}(hk:k≤xs.length): ∀ c ob,(DC u mk xs T).H c ob→(DC (J0 u k) mk (xs.take k) T).H c ob:=fun c ob h=>by
 have hl:(xs.take k).length=k:=by rw[A9];omega
 refine⟨by simp,?_⟩
 rcases h.2 with ⟨h2,h3,h4⟩|⟨b,cap,cur,h2,h3,h4,h5,h6,h7,h8⟩
 ·left
  refine⟨?_,by rw[hl];omega,h4⟩
  rw[h2,show k=0 by omega]
  rfl
 right
 refine⟨b,cap,cur,?_,h3,by rw[hl];omega,h5,h6,h7,fun i p hp=>?_⟩
 ·rw[h2,hl];rfl
 refine h8 i p ?_
 rw[Dq]at hp⊢
 rw[AC,B9]at hp
 rw[AC]
 split at hp
 ·exact hp
 cases hp
theorem ny{α:Type}{mk:α→SP}{u:Value}{l:List α}{T:TypeId}{k:Nat}(hk:k≤l.length): ∀ c ob,(DC (J0 u k) mk (l.take k) T).H c ob→(DC (J0 u (k-1)) mk (l.take (k-1)) T).H c ob:=fun c ob h=>by
 have:=US (k:=k-1) (by rw[A9];omega) c ob h
 rw[VG,List.take_take,At (by omega)]at this
 exact this
theorem Q8{α β:Type}{mk:α→SP}{mk2:β→SP}{u:Value}{xs:List α}{ys:List β}{T T':TypeId}{k:Nat}:Y3 (DC u mk xs T) (DC (J0 u k) mk2 ys T'):=by
 rintro c c' ob ob' ⟨_,h⟩ ⟨_,g⟩
 rcases h with ⟨h1,_,h3⟩|⟨b,cap,cur,h1,h2,_⟩
 ·rcases g with ⟨_,_,g3⟩|⟨b',cap',cur',g1,_⟩
  ·rw[h3,g3]
  rw[h1]at g1;cases g1
 rcases g with ⟨g1,_,_⟩|⟨b',cap',cur',g1,g2,_⟩
 ·rw[h1]at g1;cases g1
 rw[h1]at g1
 cases g1
 rw[h2,g2]
section ops
variable {P:Program} {n:Nat} {ops:Array Oper} {Γ:D2} {ρ:DU} {δ:DK} {τ:List VR}
variable {d:Nat} {ty:TypeId} {pos:String} {af:Array Edge}
theorem Ke{α:Type}{mk:α→SP}{xs:List α}{x hi:Operand}{T E eb:Nat}{k1:IntKind}{h:Int}{sv:Value}{T':TypeId}(k:Nat)(ht:Iu P T=some (E,1,eb))(hx:Lk Γ δ ρ x (CW sv))(hhi:Lk Γ δ ρ hi (CW (.int k1 h)))(hk:nth τ k=some (.c (DC sv mk xs T')))(h0:0≤h)(h1:h≤xs.length):
  OpOK P n ops Γ ρ δ τ ⟨some d,.slice T x none (some hi) none,ty,pos,af,none⟩ (.rd k) (.c (CW (J0 sv h.toNat))) ET:=
 Mq hk fun a c ob _ hr hh=>by
  have hv:=(hr x _ (by simp[Op.operands]) hx).1
  have hz:=(hr hi _ (by simp[Op.operands]) hhi).1
  obtain⟨hu,i,hi',hs,_⟩:=Ll ht
  rcases hh.2 with ⟨h2,h3,_⟩|⟨b,cap,cur,h2,h3,h4,h5,h6,h7⟩
  ·have hl0:h=0:=by omega
   subst hl0
   refine⟨.slice none 0 0,?_,?_⟩
   ·simp[execOp,Instr.sliceAt,Instr.slice,run_underlying hu,h2,hv,hz,Instr.sliceBounds,Instr.sliceBound,asIntOf,sizeOf,typeInfo,hi']
   rw[h2];exact⟨rfl,rfl⟩
  have hl:h≤(cap:Int):=by omega
  refine⟨.slice (some ⟨b,0,none⟩) h.toNat cap,?_,by rw[h2];exact⟨rfl,rfl⟩⟩
  simp[execOp,Instr.sliceAt,Instr.slice,run_underlying hu,h2,hv,hz,Instr.sliceBounds,Instr.sliceBound,asIntOf,sizeOf,typeInfo,hi',hs,hl,h0,Gb]
end ops
theorem e8{Y:Nat}(h:(CR Y).length=1):(CR Y).getD ((0:Int)).toNat 0=Y:=by
 have h1:=Dt Y
 show(CR Y).getD 0 0=Y
 match hl:CR Y with
 |[]=>rw[hl]at h;simp at h
 |[x]=>rw[hl,NZ]at h1;exact h1
 |x::y::l=>rw[hl]at h;simp at h
theorem OV{D N:Nat}(hl:(CR D).length=N+1):(D:Int)=CX ((CR D).take N)+DQ N*(CR D).getD N 0∧0≤CX ((CR D).take N)∧CX ((CR D).take N)<DQ N∧0≤(CR D).getD N 0∧(CR D).getD N 0<4294967296:=by
 have h1:=F4 (l:=CR D) (k:=N) (by omega)
 rw[show N+1=(CR D).length by omega,AI,Dt]at h1
 have h2:=DR ((D8 D).take N)
 have h3:=FJ ((D8 D).take N)
 rw[A9,At (by omega)]at h3
 have h4:=(D8 D).at (k:=N) (by omega)
 exact⟨h1,h2,h3,h4.1,h4.2⟩
theorem Rs{D N:Nat}(hl:(CR D).length=N+1):1≤(CR D).getD N 0:=by
 have h:=JW D
 have h4:=(D8 D).at (k:=N) (by omega)
 rcases h with h|h
 ·rw[h]at hl;simp at hl
 rw[hl,Nat.add_sub_cancel]at h
 omega
theorem fo{Y N:Nat}(hl:(CR Y).length=N+1): ∃ S:Nat,S<32∧(S:Int)=32-(bl ((CR Y).getD N 0).toNat:Int)∧(CR (Y*2^S)).length=N+1∧2147483648≤(CR (Y*2^S)).getD N 0:=by
 obtain⟨e,l0,l1,t0,t1⟩:=OV hl
 have tp:=Rs hl
 obtain⟨w,hw⟩: ∃ w:Nat,(CR Y).getD N 0=(w:Int):=⟨((CR Y).getD N 0).toNat,by omega⟩
 rw[hw]at e t0 t1 tp⊢
 rw[Ar]
 have w0:w≠0:=by omega
 have hlog:w.log2<32:=(Nat.log2_lt w0).2 (by omega)
 have hbl:bl w=w.log2+1:=MY w0
 refine⟨31-w.log2,by omega,by omega,?_⟩
 obtain⟨S,hS⟩: ∃ S,S=31-w.log2:=⟨_,rfl⟩
 rw[←hS]
 have g1:2^w.log2≤w:=Nat.log2_self_le w0
 have g2:w<2^(w.log2+1):=Nat.lt_log2_self
 have k1:2147483648≤w*2^S:=by
  have:=Au (2^S) g1
  rw[←Bd,show w.log2+S=31 by omega]at this
  exact this
 have k2:(w+1)*2^S≤4294967296:=by
  have:=Au (2^S) (show w+1≤2^(w.log2+1)from g2)
  rw[←Bd,show w.log2+1+S=32 by omega]at this
  exact this
 have hp:1≤2^S:=CD
 have c1:(2147483648:Int)≤(w:Int)*((2^S:Nat):Int):=by
  have h:=BX.2 k1
  rw[Ad]at h
  exact h
 have c2:((w:Int)+1)*((2^S:Nat):Int)≤4294967296:=by
  have h:=BX.2 k2
  rw[Ad]at h
  exact h
 have c3:(1:Int)≤((2^S:Nat):Int):=by exact_mod_cast hp
 have hB:=F9 N
 have eD:((Y*2^S:Nat):Int)=(Y:Int)*((2^S:Nat):Int):=Ad ..
 have d0:DQ N*2147483648≤((Y*2^S:Nat):Int):=by
  rw[eD,e,AJ]
  have h1:=Ae l0 (show(0:Int)≤((2^S:Nat):Int) by omega)
  have h2:=Ac c1 (show 0≤DQ N by omega)
  rw[Aw]
  omega
 have d1:((Y*2^S:Nat):Int)<DQ N*4294967296:=by
  rw[eD,e]
  have h1:(CX ((CR Y).take N)+DQ N*(w:Int))*((2^S:Nat):Int)<(DQ N*((w:Int)+1))*((2^S:Nat):Int):=CK (by rw[Al];omega) (by omega)
  have h2:=Ac c2 (show 0≤DQ N by omega)
  rw[←Aw]at h2
  omega
 have len1:(CR (Y*2^S)).length≤N+1:=Hx (by rw[F7,Ab];exact d1)
 have len2:N+1≤(CR (Y*2^S)).length:=by
  refine Aj fun hc=>?_
  have h1:=FJ (D8 (Y*2^S))
  rw[Dt]at h1
  have h2:=G2 (show(CR (Y*2^S)).length≤N by omega)
  omega
 have hlen:(CR (Y*2^S)).length=N+1:=by omega
 refine⟨hlen,?_⟩
 obtain⟨e2,m0,m1,u0,u1⟩:=OV hlen
 refine Aj fun hc=>?_
 have h1:DQ N*(CR (Y*2^S)).getD N 0≤DQ N*2147483647:=Ac (by omega) (by omega)
 omega
theorem kB(l:List Int)(c:Nat):CX (l++List.replicate c 0)=CX l:=by
 rw[Gj,O1,Int.mul_zero,Ba]
theorem pt{l:List Int}(h:Fm l)(c:Nat):Fm (l++List.replicate c 0):=fun z hz=>by
 rcases BD.1 hz with e|e
 ·exact h z e
 exact KT c z e
theorem rq(l:List Int)(c:Nat):l++List.replicate c 0++ [0]=l++List.replicate (c+1) 0:=by
 rw[Bg,←List.replicate_succ']
theorem lL{X Y:Nat}(h: ¬X<Y):(CR Y).length≤(CR X).length:=N7 (by omega)
theorem fl{X S:Nat}(hS:S<32):(CR (X*2^S)).length≤(CR X).length+1:=by
 have h1:= @T5 X (2^S)
 have h2:(CR (2^S)).length≤1:=by
  refine Hx (k:=1) ?_
  have:(2:Nat)^S<2^32:=Nat.pow_lt_pow_right (by omega) hS
  show((2^S:Nat):Int)<4294967296^1
  have h3:(2:Nat)^32=4294967296:=by decide
  omega
 omega
theorem vS{X Y S N m:Nat}(hl:(CR Y).length=N+1)(hm:(CR X).length+1=m+(N+1))(hp:(CR (Y*2^S)).length=N+1):((X*2^S:Nat):Int)<((Y*2^S:Nat):Int)*DQ m:=by
 obtain⟨e,l0,l1,t0,t1⟩:=OV hl
 have tp:=Rs hl
 have hX:=FJ (D8 X)
 rw[Dt,show(CR X).length=N+m by omega,K6]at hX
 have hB:=F9 N
 have hM:=F9 m
 have c3:(1:Int)≤((2^S:Nat):Int):=by exact_mod_cast (CD (n:=S))
 have k1:DQ N*1≤DQ N*(CR Y).getD N 0:=Ac tp (by omega)
 have k2:DQ N≤(Y:Int):=by omega
 have k3:DQ N*DQ m≤(Y:Int)*DQ m:=Af k2 (by omega)
 have k4:(X:Int)*((2^S:Nat):Int)<(Y:Int)*DQ m*((2^S:Nat):Int):=CK (by omega) (by omega)
 rw[Ad,Ad]
 have e2:(Y:Int)*((2^S:Nat):Int)*DQ m=(Y:Int)*DQ m*((2^S:Nat):Int):=by grind
 rw[e2]
 exact k4
theorem vT{X Y S:Nat}(hY:0<Y):(((X*2^S:Nat):Int)/((Y*2^S:Nat):Int)).toNat=X/Y:=by
 rw[←Bo,Ar,Nat.mul_div_mul_right _ _ (Ax S)]
theorem lM{X Y S:Nat}(hY:0<Y):(((X*2^S:Nat):Int) % ((Y*2^S:Nat):Int))=((X % Y*2^S:Nat):Int):=by
 rw[←Cg,Nat.mul_mod_mul_right]
theorem vU{R S:Nat}:(CX (CR ((R*2^S:Nat):Int).toNat)/2^S).toNat=R:=by
 rw[Ar,aY,Nat.mul_div_cancel _ (Ax S)]
theorem Ua{g d:Int}(hC:(CT .geq g 4294967296)=false)(h0:0≤g)(hd:0≤d∧d<4294967296):IntKind.u64.wrap (g*d)=g*d:=by
 have hg:g<4294967296:=by simp[CT]at hC;omega
 have h1:g*d≤4294967295*4294967295:=Bc (by omega) (by omega) hd.1 (by omega)
 exact DD (Ae h0 hd.1) (by omega)
theorem IA{X Y:Nat}(h:CT .lss (GS X Y) 0=true):X<Y:=by
 have h1:GS X Y<0:=by simpa[CT]using h
 unfold GS at h1
 split at h1
 ·assumption
 split at h1<;>omega
theorem Iz{X Y:Nat}(h:CT .lss (GS X Y) 0=false): ¬X<Y:=fun hl=>by
 have h1: ¬GS X Y<0:=by simpa[CT]using h
 unfold GS at h1
 rw[if_pos hl]at h1
 omega
theorem n8(X S:Nat):(CX (CR X)*2^S).toNat=X*2^S:=by
 rw[Dt]
 have:(2:Int)^S=((2^S:Nat):Int):=by simp
 rw[this,←Ad,Ar]
theorem pq{a:Int}(h0:0≤a)(h1:a<4294967296):Fm [a]:=fun z hz=>by
 rw[AE.1 hz]
 exact⟨h0,h1⟩
end Go.Bn
