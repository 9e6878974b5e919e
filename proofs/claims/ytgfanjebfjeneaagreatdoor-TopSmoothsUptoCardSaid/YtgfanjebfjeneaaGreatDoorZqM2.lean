/-
 Plain facts on matrices: numbers row by row, and what the matrix packages compute. What the functions of the matrix package answer, as plain functions. Plain facts on the numbers' operations. Plain facts on what the eighth reference computes. Plain facts on binary64: what is exact. Plain facts on what is symmetric. Plain facts on the unit matrix. Plain facts on places. Plain facts on sums, multiples and outer products. Plain facts on matrices that are made. Plain facts on kinds of matrices, traces and norms. Plain facts on parts of matrices. Plain facts on orders. Plain facts on matrices taken apart and put together. Plain facts on powers of two. The logic of walks: the last operations; numbers by their bits.
-/
import Derived.Test.YtgfanjebfjeneaaGreatDoorZqM1
set_option linter.unusedVariables false
set_option linter.unusedSimpArgs false
namespace Go.Bn
open Go
def mat(c:Int)(xs:List Nat)(i j:Int):Nat:=xs.getD (i*c+j).toNat 0
def GM(r c:Int)(f:Int→Int→Nat):List Nat:=(List.range (r.toNat*c.toNat)).map fun k=>f ((k/c.toNat:Nat):Int) ((k % c.toNat:Nat):Int)
def Oq(n:Int):Bool:=decide (0≤n)&&decide (n≤12)
def Gs(r c:Int)(xs:List Nat):Int:=if Oq r=false∨Oq c=false then 1 else if(xs.length:Int)≠r*c then 3 else if xs.all DF=false then 4 else 0
def Ih:List Int→Int
 |[]=>0
 |e::l=>if e=0 then Ih l else e
def XT(b:Bool)(e:Int):Int:=if b then e else 0
theorem FL(r c:Int)(f:Int→Int→Nat):(GM r c f).length=r.toNat*c.toNat:=by simp[GM]
theorem W2(r c:Int)(f:Int→Int→Nat){k:Nat}(h:k<r.toNat*c.toNat):(GM r c f).getD k 0=f ((k/c.toNat:Nat):Int) ((k % c.toNat:Nat):Int):=by
 simp[GM,List.getD,h]
theorem RL{r c i j:Nat}(hi:i<r)(hj:j<c):i*c+j<r*c:=by
 have h1:(i+1)*c≤r*c:=Au c hi
 rw[AO,B5]at h1
 omega
theorem P6{c i j:Nat}(hj:j<c):(i*c+j)/c=i∧(i*c+j) % c=j:=by
 have hc:0<c:=by omega
 rw[AP,Nat.mul_add_div hc,Cn hj,Bx,Nat.mul_add_mod,BH hj]
 exact⟨rfl,rfl⟩
theorem Ub(r c:Int)(f:Int→Int→Nat){i j:Nat}(hi:i<r.toNat)(hj:j<c.toNat):(GM r c f).getD (i*c.toNat+j) 0=f i j:=by
 rw[W2 r c f (RL hi hj),(P6 hj).1,(P6 hj).2]
theorem Ww{r c:Int}{f:Int→Int→Nat}{i j:Int}(h0:0≤i)(h1:i<r)(h2:0≤j)(h3:j<c):mat c (GM r c f) i j=f i j:=by
 have e:(i*c+j).toNat=i.toNat*c.toNat+j.toNat:=by
  have hi:i=(i.toNat:Int):=by omega
  have hj:j=(j.toNat:Int):=by omega
  have hc:c=(c.toNat:Int):=by omega
  generalize i.toNat=a at*
  generalize j.toNat=b at*
  generalize c.toNat=d at*
  subst hi;subst hj;subst hc
  rw[←Ad,←Bf];rfl
 unfold mat
 rw[e,Ub r c f (by omega) (by omega)]
 congr 1<;>omega
theorem je{xs ys:List Nat}(hl:xs.length=ys.length)(h: ∀ k,k<xs.length→xs.getD k 0=ys.getD k 0):xs=ys:=by
 apply List.ext_getElem hl
 intro k h1 h2
 have:=h k h1
 simpa[List.getD,Ag h1,Ag h2]using this
theorem YK{r c:Int}{f g:Int→Int→Nat}(h: ∀ i j,0≤i→i<r→0≤j→j<c→f i j=g i j):GM r c f=GM r c g:=by
 unfold GM
 apply List.map_congr_left
 intro k hk
 rw[List.mem_range]at hk
 have hc:0<c.toNat:=by
  rcases BN c.toNat with h0|h0
  ·rw[h0]at hk;simp at hk
  exact h0
 have h1:k/c.toNat<r.toNat:=Nat.div_lt_of_lt_mul (by rw[AP];exact hk)
 have h2:k % c.toNat<c.toNat:=Ap _ hc
 generalize k/c.toNat=p at h1⊢
 generalize k % c.toNat=q at h2⊢
 exact h _ _ (by omega) (by omega) (by omega) (by omega)
theorem W3{r c:Int}{xs:List Nat}(hr:0≤r)(hc:0≤c)(hl:(xs.length:Int)=r*c):GM r c (mat c xs)=xs:=by
 have hlen:xs.length=r.toNat*c.toNat:=by
  have h1:r=(r.toNat:Int):=by omega
  have h2:c=(c.toNat:Int):=by omega
  rw[h1,h2,←Ad]at hl
  exact Int.ofNat.inj hl
 refine je (by rw[FL,hlen]) fun k hk=>?_
 rw[FL]at hk
 rw[W2 r c _ hk]
 unfold mat
 congr 1
 have h2:c=(c.toNat:Int):=by omega
 generalize c.toNat=d at*
 subst h2
 rw[←Ad,←Bf,Ar,Nat.div_add_mod']
def VL(xs ys:List Nat):Nat→Nat
 |0=>0
 |k+1=>TV (VL xs ys k) (Ft (xs.getD k 0) (ys.getD k 0))
def NJ(xs ys:List Nat):Nat:=VL xs ys xs.length
def G6(c:Int)(xs:List Nat)(i:Int):List Nat:=(List.range c.toNat).map fun(j:Nat)=>mat c xs i j
def Gn(r c:Int)(xs:List Nat)(j:Int):List Nat:=(List.range r.toNat).map fun(i:Nat)=>mat c xs i j
theorem Nq{r c:Int}{xs:List Nat}{i:Int}(hc:0≤c)(hl:(xs.length:Int)=r*c)(h0:0≤i)(h1:i<r):(xs.drop (i*c).toNat).take (((i+1)*c).toNat-(i*c).toNat)=G6 c xs i:=by
 have hi:i=(i.toNat:Int):=by omega
 have hc':c=(c.toNat:Int):=by omega
 have hr':r=(r.toNat:Int):=by omega
 unfold G6 mat
 generalize i.toNat=a at*
 generalize c.toNat=d at*
 generalize r.toNat=e at*
 subst hi;subst hc';subst hr'
 have hlen:xs.length=e*d:=by rw[←Ad]at hl;exact Int.ofNat.inj hl
 have hae:(a+1)*d≤e*d:=Au d (by omega)
 have e1:((a:Int)*(d:Int)).toNat=a*d:=by rw[←Ad];rfl
 have e2:(((a:Int)+1)*(d:Int)).toNat=(a+1)*d:=by rw[←Int.natCast_succ,←Ad];rfl
 rw[e1,e2,AO,B5,Nat.add_sub_cancel_left]
 rw[AO,B5]at hae
 apply List.ext_getElem
 ·simp;omega
 intro k h2 h3
 simp at h3
 have e3:((a:Int)*(d:Int)+(k:Int)).toNat=a*d+k:=by rw[←Ad,←Bf];rfl
 simp only[List.getElem_take,List.getElem_drop,List.getElem_map,List.getElem_range,e3]
 rw[List.getD,Ag (by omega)]
 rfl
structure MR where
 r:Int
 c:Int
 a:List Nat
 e:Int
theorem MR.eq4{x:MR}{r c e:Int}{a:List Nat}(h:((decide (x.r=r)&&decide (x.c=c))&&decide (x.a=a)&&decide (x.e=e))=true):x=⟨r,c,a,e⟩:=by
 obtain⟨p,q,s,u⟩:=x
 simp at h
 obtain⟨⟨⟨h1,h2⟩,h3⟩,h4⟩:=h
 rw[h1,h2,h3,h4]
def Xd(x:MR):SP:=EP [EY x.r x.c x.a,I6 x.e]
theorem MJ{Γ:D2}{r c:Int}{a:List Nat}{e:Int}{x:MR}(h:(⟨r,c,a,e⟩:MR)=x):Sb Γ (EP [EY r c a,I6 e]) (Xd x):=by subst h;exact zL
def QH(e:Int):MR:=⟨0,0,[],e⟩
def M0(r c:Int)(xs:List Nat):MR:=if xs.all DF=false then QH 5 else⟨r,c,xs,0⟩
def tA(e:Int)(x:MR):MR:=if e=0 then x else QH e
def KK(r c:Int):Prop:=0≤r∧r≤12∧0≤c∧c≤12
def Fc(r c:Int)(xs:List Nat):Prop:=KK r c∧(xs.length:Int)=r*c
def Pl(r c i j:Int):Prop:=0≤i∧i<r∧0≤j∧j<c
def Lo(n i j:Int):Prop:=0≤j∧j≤i∧i<n
theorem KK.mul{r c:Int}(h:KK r c):0≤r*c∧r*c≤144:=by
 obtain⟨h1,h2,h3,h4⟩:=h
 exact⟨Ae h1 h3,Int.le_trans (Af h2 h3) (by omega)⟩
theorem KK.turn{r c:Int}(h:KK r c):KK c r:=⟨h.2.2.1,h.2.2.2,h.1,h.2.1⟩
theorem KK.mk2{r c r' c':Int}(h:KK r c)(h':KK r' c'):KK r c':=⟨h.1,h.2.1,h'.2.2.1,h'.2.2.2⟩
theorem Pl.rng{r c i j:Int}(hs:KK r c)(h:Pl r c i j):0≤i*c∧0≤i*c+j∧i*c+j<r*c∧r*c≤144∧i*c+c≤r*c:=by
 obtain⟨h1,h2,h3,h4⟩:=h
 have h5:0≤i*c:=Ae h1 hs.2.2.1
 have h6:(i+1)*c≤r*c:=Af (by omega) hs.2.2.1
 rw[AJ,AK]at h6
 have:=hs.mul
 omega
theorem Pl.turn{r c i j:Int}(h:Pl r c i j):Pl c r j i:=⟨h.2.2.1,h.2.2.2,h.1,h.2.1⟩
theorem Me{r c:Int}{f:Int→Int→Nat}(h:KK r c):Fc r c (GM r c f):=by
 refine⟨h,?_⟩
 rw[FL]
 have h1:r=(r.toNat:Int):=by have:=h.1;omega
 have h2:c=(c.toNat:Int):=by have:=h.2.2.1;omega
 rw[Ad,←h1,←h2]
theorem Fc.row{r c i:Int}{xs:List Nat}(h:Fc r c xs)(h0:0≤i)(h1:i<r):0≤i*c∧(i+1)*c=i*c+c∧i*c+c≤xs.length∧(xs.length:Int)≤144:=by
 have h5:0≤i*c:=Ae h0 h.1.2.2.1
 have h6:(i+1)*c≤r*c:=Af (by omega) h.1.2.2.1
 have h7:(i+1)*c=i*c+c:=by rw[AJ,AK]
 have:=h.1.mul
 have:=h.2
 omega
theorem KI{n:Int}:Oq n=true↔0≤n∧n≤12:=by simp[Oq]
theorem HG{r c:Int}{xs:List Nat}:Gs r c xs=0↔Fc r c xs∧xs.all DF=true:=by
 unfold Gs Fc KK
 have h1:= @KI r
 have h2:= @KI c
 cases e1:Oq r<;>cases e2:Oq c<;>cases e3:xs.all DF<;>simp only[e1,e2]at h1 h2<;>simp<;>(try split)<;>simp_all<;>omega
theorem Eg{r c:Int}{xs:List Nat}(h:Gs r c xs=0):Fc r c xs:=(HG.1 h).1
theorem a1E{r c:Int}(h:Oq r=true∧Oq c=true):KK r c:=by
 have h1:=KI.1 h.1
 have h2:=KI.1 h.2
 exact⟨h1.1,h1.2,h2.1,h2.2⟩
def Mz(r c:Int)(f:Int→Int→Nat)(D:Int→Int→Prop)(xs:List Nat):Prop:=(xs.length:Int)=r*c∧ ∀ a b,Pl r c a b→(D a b→mat c xs a b=f a b)∧(¬D a b→mat c xs a b=0)
theorem Sn{c a b:Int}{n:Nat}:mat c (List.replicate n 0) a b=0:=by
 unfold mat
 rw[List.getD,List.getElem?_replicate]
 split<;>rfl
theorem Mf{r c:Int}:GM r c (fun _ _=>0)=List.replicate (r.toNat*c.toNat) 0:=by
 unfold GM
 rw[List.map_const',List.length_range]
theorem fE{r c:Int}{f:Int→Int→Nat}(h:KK r c):Mz r c f (fun _ _=>False) (List.replicate (r*c).toNat 0):=by
 refine⟨?_,fun a b _=>⟨fun h=>h.elim,fun _=>Sn⟩⟩
 have:=h.mul
 simp;omega
theorem qH{c p q a b:Int}{xs:List Nat}{v:Nat}{r:Int}(hs:KK r c)(hl:(xs.length:Int)=r*c)(hp:Pl r c p q)(ha:Pl r c a b):mat c (xs.set (p*c+q).toNat v) a b=if a=p∧b=q then v else mat c xs a b:=by
 unfold mat
 have h1:=hp.rng hs
 have h2:=ha.rng hs
 obtain⟨hp1,hp2,hp3,hp4⟩:=hp
 obtain⟨ha1,ha2,ha3,ha4⟩:=ha
 by_cases he:a=p∧b=q
 ·rw[if_pos he,he.1,he.2]
  rw[List.getD,BL (by omega)]
  rfl
 rw[if_neg he]
 have hne:(p*c+q).toNat≠(a*c+b).toNat:=by
  intro e
  have e':p*c+q=a*c+b:=by omega
  apply he
  have hc:0<c:=by omega
  rcases Int.lt_trichotomy a p with h|h|h
  ·have h6:(a+1)*c≤p*c:=Af (by omega) (by omega)
   rw[AJ,AK]at h6
   omega
  ·subst h;omega
  have h6:(p+1)*c≤a*c:=Af (by omega) (by omega)
  rw[AJ,AK]at h6
  omega
 rw[List.getD,Bq hne]
 rfl
theorem X7{r c p q:Int}{f:Int→Int→Nat}{D D':Int→Int→Prop}{xs:List Nat}{v:Nat}(hs:KK r c)(h:Mz r c f D xs)(hp:Pl r c p q)(hv:v=f p q)(hD: ∀ a b,Pl r c a b→(D' a b↔D a b∨(a=p∧b=q))):Mz r c f D' (xs.set (p*c+q).toNat v):=by
 refine⟨by rw[Aa];exact h.1,fun a b hab=>?_⟩
 rw[qH hs h.1 hp hab]
 have h1:=h.2 a b hab
 have h2:=hD a b hab
 by_cases he:a=p∧b=q
 ·rw[if_pos he]
  refine⟨fun _=>by rw[hv,he.1,he.2],fun hn=>(hn (h2.2 (.inr he))).elim⟩
 rw[if_neg he]
 refine⟨fun hd=>h1.1 ((h2.1 hd).resolve_right he),fun hn=>h1.2 fun hd=>hn (h2.2 (.inl hd))⟩
theorem Tc{r c:Int}{f:Int→Int→Nat}{D D':Int→Int→Prop}{xs:List Nat}(h:Mz r c f D xs)(hD: ∀ a b,Pl r c a b→(D' a b↔D a b)):Mz r c f D' xs:=
 ⟨h.1,fun a b hab=>⟨fun hd=>(h.2 a b hab).1 ((hD a b hab).1 hd),fun hn=>(h.2 a b hab).2 fun hd=>hn ((hD a b hab).2 hd)⟩⟩
theorem fC{r c:Int}{f:Int→Int→Nat}{D:Int→Int→Prop}{xs:List Nat}(hs:KK r c)(h:Mz r c f D xs)(hD: ∀ a b,Pl r c a b→D a b):xs=GM r c f:=by
 rw[←W3 hs.1 hs.2.2.1 h.1]
 exact YK fun i j h1 h2 h3 h4=>(h.2 i j ⟨h1,h2,h3,h4⟩).1 (hD i j ⟨h1,h2,h3,h4⟩)
def Nd(n:Int)(g:Int→Int→Nat):List Nat:=GM n n fun i j=>if j≤i then g i j else g j i
def MU(i j a b:Int):Prop:=(b≤a∧(a<i∨(a=i∧b<j)))∨(a<b∧(b<i∨(b=i∧a<j)))
theorem Wy{n i j:Int}{g:Int→Int→Nat}{xs:List Nat}(hs:KK n n)(h0:0≤j)(h1:j≤i)(h2:i<n)(h:Mz n n (fun i j=>if j≤i then g i j else g j i) (MU i j) xs):
  Mz n n (fun i j=>if j≤i then g i j else g j i) (MU i (j+1)) ((xs.set (i*n+j).toNat (g i j)).set (j*n+i).toNat (g i j)):=by
 refine X7 (D:=fun a b=>MU i j a b∨(a=i∧b=j)) hs (X7 hs h ⟨by omega,h2,h0,by omega⟩ (by simp[h1]) fun a b _=>Iff.rfl) ⟨h0,by omega,by omega,h2⟩ ?_ fun a b _=>?_
 ·show g i j=if i≤j then g j i else g i j
  split
  ·have:i=j:=by omega
   rw[this]
  rfl
 unfold MU;omega
theorem Mw{r c:Int}{f:Int→Int→Nat}{i j:Nat}(hi:i<r.toNat)(hj:j<c.toNat):(GM r c f).take (i*c.toNat+(j+1))=(GM r c f).take (i*c.toNat+j)++ [f i j]:=by
 have hl:=RL hi hj
 rw[show i*c.toNat+(j+1)=(i*c.toNat+j)+1 by omega,GA 0 (by rw[FL];exact hl),Ub r c f hi hj]
theorem Sv{r c:Int}{f:Int→Int→Nat}:(GM r c f).take (r.toNat*c.toNat)=GM r c f:=AN (by rw[FL];exact A5 _)
theorem Ot{r c:Int}(hs:KK r c):r.toNat*c.toNat≤144∧((r.toNat*c.toNat:Nat):Int)=r*c:=by
 have h:=hs.mul
 have h1:r=(r.toNat:Int):=by have:=hs.1;omega
 have h2:c=(c.toNat:Int):=by have:=hs.2.2.1;omega
 have e:((r.toNat*c.toNat:Nat):Int)=r*c:=by rw[Ad,←h1,←h2]
 omega
theorem SX{es:List Int}{k:Nat}(hk:k<es.length):Ih (es.drop k)=if es.getD k 0=0 then Ih (es.drop (k+1))else es.getD k 0:=by
 rw[BZ hk,Ih,List.getD,Ag hk];rfl
theorem Fv{c:Int}{xs:List Nat}{i:Int}:(G6 c xs i).length=c.toNat:=by simp[G6]
theorem Fj{r c:Int}{xs:List Nat}{j:Int}:(Gn r c xs j).length=r.toNat:=by simp[Gn]
theorem Tu{r c:Int}{xs:List Nat}{j:Int}{k:Nat}(hk:k<r.toNat):(Gn r c xs j).take (k+1)=(Gn r c xs j).take k++ [mat c xs k j]:=by
 rw[GA 0 (by rw[Fj];exact hk)]
 congr 2
 simp[Gn,List.getD,hk]
theorem Oz{r c:Int}{f:Int→Int→Nat}{n:Nat}(hs:KK r c):((GM r c f).take n).length≤144:=by
 have:=(Ot hs).1
 rw[A9,FL];omega
theorem jn:Ih []=0:=rfl
theorem Mb{e:Int}{l:List Int}:Ih (e::l)=0↔e=0∧Ih l=0:=by
 show(if e=0 then Ih l else e)=0↔_
 by_cases h:e=0
 ·rw[if_pos h];simp[h]
 rw[if_neg h];simp[h]
theorem ZM{b:Bool}{e:Int}(he:e≠0):XT b e=0↔b=false:=by cases b<;>simp[XT,he]
theorem a1e{a b:Int}:Ih [a,b]=0↔a=0∧b=0:=by rw[Mb,Mb];simp[jn]
theorem a1f{a b d:Int}:Ih [a,b,d]=0↔a=0∧b=0∧d=0:=by rw[Mb,a1e]
def x9(r c:Int)(xs:List Nat):List Nat:=GM c r fun i j=>mat c xs j i
def tY(r c:Int)(xs:List Nat):MR:=tA (Gs r c xs) ⟨c,r,x9 r c xs,0⟩
def K1(r c:Int)(xs:List Nat)(c':Int)(ys:List Nat):List Nat:=GM r c' fun i j=>NJ (G6 c xs i) (Gn c c' ys j)
def vI(r c:Int)(xs:List Nat)(r' c':Int)(ys:List Nat):Int:=Ih [Gs r c xs,Gs r' c' ys,XT (c !=r') 3]
def F5(r c:Int)(xs:List Nat)(r' c':Int)(ys:List Nat):MR:=tA (vI r c xs r' c' ys) (M0 r c' (K1 r c xs c' ys))
theorem eI{r c r' c':Int}{xs ys:List Nat}(h:vI r c xs r' c' ys=0):Fc r c xs∧Fc c c' ys∧r'=c∧xs.all DF=true∧ys.all DF=true:=by
 unfold vI at h
 rw[a1f,ZM (by decide)]at h
 obtain⟨h1,h2,h3⟩:=h
 have h1:=HG.1 h1
 have h2:=HG.1 h2
 simp at h3
 subst h3
 exact⟨h1.1,h2.1,rfl,h1.2,h2.2⟩
theorem OT{r c c':Int}{xs ys:List Nat}(h:Fc r c xs)(h':Fc c c' ys):Fc r c' (K1 r c xs c' ys):=Me (h.1.mk2 h'.1)
theorem W1{n:Int}{g:Int→Int→Nat}(h:KK n n):Fc n n (Nd n g):=Me h
def Ve(r c:Int)(ys:List Nat)(k:Nat)(l:List (List Nat)):Prop:=l.length=c.toNat∧ ∀ q:Nat,q<k→l.getD q []=Gn r c ys q
theorem dy{r c:Int}{ys:List Nat}:Ve r c ys 0 (List.replicate c.toNat []):=⟨by simp,fun q h=>by omega⟩
theorem iT{r c:Int}{ys:List Nat}{k:Nat}{l:List (List Nat)}(h:Ve r c ys k l)(hk:k<c.toNat):Ve r c ys (k+1) (l.set k (Gn r c ys k)):=by
 refine⟨by rw[Aa];exact h.1,fun q hq=>?_⟩
 by_cases hqk:k=q
 ·subst hqk
  rw[List.getD,BL (by rw[h.1];exact hk)];rfl
 rw[List.getD,Bq hqk,←List.getD]
 exact h.2 q (by omega)
def TD(g:Int→Int→Nat)(i j:Int):Nat:=if j≤i then g i j else g j i
theorem Wz{n:Int}{g:Int→Int→Nat}(hs:KK n n):Mz n n (TD g) (MU (0:Nat) 0) (GM n n fun _ _=>0):=by
 have h:=fE (f:=TD g) hs
 rw[Mf,show n.toNat*n.toNat=(n*n).toNat by have:=Ot hs;omega]
 refine Tc h fun a b hab=>?_
 obtain⟨h1,h2,h3,h4⟩:=hab
 refine⟨fun h=>?_,False.elim⟩
 unfold MU at h
 show False
 omega
theorem bw{n:Int}{g:Int→Int→Nat}{k q:Nat}{m:List Nat}(_:k<n.toNat)(hq:q=k+1)(h:Mz n n (TD g) (MU k q) m):Mz n n (TD g) (MU ((k+1:Nat):Int) ((0:Nat):Int)) m:=by
 refine Tc h fun a b hab=>?_
 obtain⟨h1,h2,h3,h4⟩:=hab
 unfold MU;omega
theorem Wx{n:Int}{g:Int→Int→Nat}{k:Nat}{m:List Nat}(hs:KK n n)(hk:k=n.toNat)(h:Mz n n (TD g) (MU k 0) m):m=Nd n g:=by
 refine fC hs h fun a b hab=>?_
 obtain⟨h1,h2,h3,h4⟩:=hab
 unfold MU;omega
theorem Vr{r c:Int}{f:Int→Int→Nat}{p:Nat→Bool}:(GM r c f).all p=true↔ ∀ i j,Pl r c i j→p (f i j)=true:=by
 rw[B1]
 constructor
 ·intro h i j ⟨h1,h2,h3,h4⟩
  have e:(GM r c f).getD (i.toNat*c.toNat+j.toNat) 0=f i j:=by
   rw[Ub r c f (by omega) (by omega)];congr 1<;>omega
  rw[←e]
  exact h _ (IJ 0 (by rw[FL];exact RL (by omega) (by omega)))
 intro h x hx
 unfold GM at hx
 rw[List.mem_map]at hx
 obtain⟨k,hk,rfl⟩:=hx
 rw[List.mem_range]at hk
 have hc:0<c.toNat:=by
  rcases BN c.toNat with h0|h0
  ·rw[h0]at hk;simp at hk
  exact h0
 have h1:k/c.toNat<r.toNat:=Nat.div_lt_of_lt_mul (by rw[AP];exact hk)
 have h2:k % c.toNat<c.toNat:=Ap _ hc
 generalize k/c.toNat=p at h1⊢
 generalize k % c.toNat=q at h2⊢
 exact h _ _ ⟨by omega,by omega,by omega,by omega⟩
theorem iu{r c:Int}{xs:List Nat}{p:Nat→Bool}(h:Fc r c xs):xs.all p=true↔ ∀ i j,Pl r c i j→p (mat c xs i j)=true:=by
 conv=>lhs;rw[←W3 h.1.1 h.1.2.2.1 h.2]
 exact Vr
theorem uq{r c:Int}{xs:List Nat}{p:Nat→Bool}(h:Fc r c xs):(x9 r c xs).all p=xs.all p:=by
 rw[Bool.eq_iff_iff,iu h]
 unfold x9
 rw[Vr]
 exact⟨fun k i j hp=>k j i hp.turn,fun k i j hp=>k j i hp.turn⟩
theorem pX{r c:Int}{xs:List Nat}(h:Fc r c xs):Fc c r (x9 r c xs):=Me h.1.turn
theorem a0w{r c:Int}{xs:List Nat}:(tY r c xs).e=Gs r c xs:=by
 unfold tY tA
 split
 ·rename_i h;exact h.symm
 rfl
theorem wK{r c:Int}{xs:List Nat}(h:Gs r c xs=0):tY r c xs=⟨c,r,x9 r c xs,0⟩:=if_pos h
theorem uH{r c:Int}{xs:List Nat}(h:Gs r c xs=0):Gs c r (x9 r c xs)=0:=by
 have h:=HG.1 h
 exact HG.2 ⟨pX h.1,by rw[uq h.1];exact h.2⟩
structure NR where
 a:Nat
 e:Int
def zw(x:NR):SP:=EP [Dm x.a,I6 x.e]
def a16(e:Int):NR:=⟨0,e⟩
theorem tI{Γ:D2}{a:Nat}{e:Int}{x:NR}(h:(⟨a,e⟩:NR)=x):Sb Γ (EP [Dm a,I6 e]) (zw x):=by subst h;exact zL
theorem lpE:Ieee.double.leastPlace= -1074:=by decide+kernel
def On(w:Nat):Bool:=w/9223372036854775808 % 2==1
def G7(w:Nat):Nat:=w % 9223372036854775808
def Iw(w:Nat):Nat:=if G7 w<4503599627370496 then G7 w else 4503599627370496+G7 w % 4503599627370496
def JK(w:Nat):Int:=if G7 w<4503599627370496 then -1074 else -1074+(G7 w/4503599627370496-1:Nat)
theorem Ko{w:Nat}(hw:w<2^64):DF w=true↔G7 w<9218868437227405312:=by
 unfold DF G7 FI
 simp only[decide_eq_true_eq]
 omega
theorem Xb{w:Nat}(h:G7 w<9218868437227405312):Ieee.double.read w= .number (On w) (Iw w) (JK w):=by
 unfold Ieee.Format.read Iw JK On G7 at*
 simp only[RZ,dg,W5,lpE]
 split
 ·rfl
 first|rfl|rw[if_pos h]
theorem Uy(w:Nat): -1074≤JK w:=by unfold JK;split<;>omega
theorem Nc(w:Nat):Iw w<9007199254740992:=by
 unfold Iw
 have:=Ap (G7 w) (show 0<4503599627370496 by omega)
 split<;>omega
theorem Xc{w:Nat}(h:G7 w=9218868437227405312):Ieee.double.read w= .infinity (On w):=by
 unfold Ieee.Format.read On G7 at*
 simp only[RZ,dg,W5,h]
 rfl
def Gw(r c:Int)(xs:List Nat):Bool:=decide (Gs r c xs=0)&&decide (r=c)&&decide (∀ i,i<r.toNat→ ∀ j,j<i→mat c xs (i:Nat) (j:Nat)=mat c xs (j:Nat) (i:Nat))
theorem JB{r c:Int}{xs:List Nat}:Gw r c xs=true↔Gs r c xs=0∧r=c∧ ∀ i j:Int,0≤j→j<i→i<r→mat c xs i j=mat c xs j i:=by
 unfold Gw
 rw[Ao,Ao,decide_eq_true_eq,decide_eq_true_eq,decide_eq_true_eq,and_assoc]
 refine and_congr_right fun _=>and_congr_right fun _=>⟨fun h i j h1 h2 h3=>?_,fun h i hi j hj=>h i j (by omega) (by omega) (by omega)⟩
 have:=h i.toNat (by omega) j.toNat (by omega)
 rw[show((i.toNat:Nat):Int)=i by omega,show((j.toNat:Nat):Int)=j by omega]at this
 exact this
theorem sC{r c:Int}{xs:List Nat}(h: ¬Gs r c xs=0∨ ¬r=c):Gw r c xs=false:=by
 cases hs:Gw r c xs
 ·rfl
 obtain⟨h1,h2,_⟩:=JB.1 hs
 rcases h with h|h
 ·exact(h h1).elim
 exact(h h2).elim
theorem sD{r c i j:Int}{xs:List Nat}(h1:0≤j)(h2:j<i)(h3:i<r)(h: ¬mat c xs i j=mat c xs j i):Gw r c xs=false:=by
 cases hs:Gw r c xs
 ·rfl
 obtain⟨_,_,h4⟩:=JB.1 hs
 exact(h (h4 i j h1 h2 h3)).elim
def Pp(c:Int)(xs:List Nat)(i j:Nat):Prop:= ∀ a b:Nat,b<a→(a<i∨(a=i∧b<j))→mat c xs a b=mat c xs b a
theorem ZA{c:Int}{xs:List Nat}:Pp c xs 0 0:=fun a b h1 h2=>by omega
theorem Zz{c:Int}{xs:List Nat}{i j:Nat}(h:Pp c xs i j)(he:mat c xs (i:Nat) (j:Nat)=mat c xs (j:Nat) (i:Nat)):Pp c xs i (j+1):=fun a b h1 h2=>by
 by_cases hab:a=i∧b=j
 ·rw[hab.1,hab.2];exact he
 exact h a b h1 (by omega)
theorem gF{c:Int}{xs:List Nat}{i q:Nat}(hq:q=i)(h:Pp c xs i q):Pp c xs (i+1) 0:=fun a b h1 h2=>h a b h1 (by omega)
theorem sE{r c:Int}{xs:List Nat}{k:Nat}(h1:Gs r c xs=0)(h2:r=c)(hk:r.toNat≤k)(h:Pp c xs k 0):Gw r c xs=true:=by
 refine JB.2 ⟨h1,h2,fun i j g1 g2 g3=>?_⟩
 have:=h i.toNat j.toNat (by omega) (by omega)
 rw[show((i.toNat:Nat):Int)=i by omega,show((j.toNat:Nat):Int)=j by omega]at this
 exact this
theorem sw{n:Int}{g:Int→Int→Nat}(hs:KK n n)(hf:(Nd n g).all DF=true):Gw n n (Nd n g)=true:=by
 refine JB.2 ⟨HG.2 ⟨W1 hs,hf⟩,rfl,fun i j h1 h2 h3=>?_⟩
 have e1:mat n (Nd n g) i j=_:=Ww (by omega) h3 h1 (by omega)
 have e2:mat n (Nd n g) j i=_:=Ww h1 (by omega) (by omega) h3
 rw[e1,e2,if_pos (by omega),if_neg (by omega)]
def oK:Nat:=0x3ff0000000000000
def a0W:Nat:=0x8000000000000000
theorem RA{s:Bool}{p:Int}:Ieee.double.nearest s 0 p=if s then a0W else 0:=by
 have:Ieee.double.nearest s 0 p=Ieee.double.word s 0:=by simp[Ieee.Format.nearest]
 rw[this]
 cases s<;>decide+kernel
theorem sn{s:Bool}{m:Nat}{e:Int}:(Ieee.Datum.number s m e).sum ((Ieee.Datum.number s m e).opposite)=some (.number false 0 e):=by
 simp only[Ieee.Datum.sum,Ieee.Datum.opposite,Ieee.signed]
 cases s<;>simp<;>omega
theorem mr{w:Nat}(h:9218868437227405312<G7 w): ∃ s t,Ieee.double.read w= .nan s t:=by
 unfold Ieee.Format.read
 unfold G7 at h
 simp only[RZ,dg,W5]
 rw[if_neg (by omega),if_neg (by omega),if_neg (by omega)]
 exact⟨_,_,rfl⟩
theorem dP{x:Nat}(hx:x<2^64):MA x x=if DF x=true then 0 else oJ:=by
 unfold MA Ieee.Format.sub
 by_cases h1:G7 x<9218868437227405312
 ·rw[if_pos ((Ko hx).2 h1),Xb h1,sn]
  show Ieee.double.nearest false 0 (JK x)=0
  rw[RA];rfl
 have hf: ¬DF x=true:=fun h=>h1 ((Ko hx).1 h)
 rw[if_neg hf]
 by_cases h2:G7 x=9218868437227405312
 ·rw[Xc h2]
  cases On x<;>rfl
 obtain⟨s,t,h⟩:=mr (show 9218868437227405312<G7 x by omega)
 rw[h]
 rfl
theorem Ht{x:Nat}(h:DF x=true):FN x=false:=by
 rw[Jv]
 unfold DF FI at h
 simp only[decide_eq_true_eq]at h
 exact decide_eq_false (by omega)
def sf(s:Bool):Nat→Nat→Nat:=if s then MA else TV
def wr(a b:Int):Int:=IntKind.i64.wrap (a+b)
def ui(ps:List Int)(a:Nat):Prop:=0≤ps.getD a 0∧ps.getD a 0<(ps.length:Int)∧ ∀ q,q<a→ps.getD q 0≠ps.getD a 0
instance(ps:List Int)(a:Nat):Decidable (ui ps a):=by unfold ui;exact inferInstance
def xO(ps:List Int)(k:Nat):Prop:= ∀ a,a<k→ui ps a
instance(ps:List Int)(k:Nat):Decidable (xO ps k):=by unfold xO;exact inferInstance
theorem YB{x:Nat}(hx:x<2^64)(hr:G7 x<9218868437227405312):G7 (Kc x)=G7 x∧On (Kc x)=false∧Iw (Kc x)=Iw x∧JK (Kc x)=JK x:=by
 have hn:FN x=false:=Ht ((Ko hx).2 hr)
 have e:Kc x=G7 x:=by unfold Kc;rw[hn];rfl
 have e2:G7 (Kc x)=G7 x:=by rw[e];unfold G7;omega
 refine⟨e2,?_,?_,?_⟩
 ·rw[e];unfold On
  have:G7 x/9223372036854775808=0:=by omega
  rw[this];rfl
 ·unfold Iw;rw[e2]
 unfold JK;rw[e2]
theorem SS(w:Nat):FI w=G7 w/4503599627370496:=by unfold FI G7;omega
section ops
variable {P:Program} {n:Nat} {ops:Array Oper} {Γ:D2} {ρ:DU} {δ:DK} {τ:List VR}
variable {d:Nat} {ty:TypeId} {pos:String} {af:Array Edge}
theorem OpOK.sub{o:Oper}{acc:Jg}{p q:SP}{r':VR}(h:OpOK P n ops Γ ρ δ τ o acc (.c p) r')(hg:o.guard=none)(hs: ∀ v c,p.H v c→q.H v c):OpOK P n ops Γ ρ δ τ o acc (.c q) r':=by
 intro a c ob g1 g2 g3 g4 g5 g6 g7
 have:=h a c ob g1 g2 g3 g4 g5 g6 g7
 have hw:Region.wanted o (yielded ops a.tmps)=true:=by unfold Region.wanted;rw[hg]
 rw[if_pos hw]at this⊢
 exact this.mono fun v w' ⟨c',ob',q1,q2,q3,q4⟩=>⟨c',ob',q1,q2,hs _ _ q3,q4⟩
theorem WS{f:Nat}{x:Operand}{v:Nat}{ats:Array TypeId}(hf:Ya P f Go.Extern.MathFloatBits.float64bits)(hn:FN v=false)(hx:Lk Γ δ ρ x (Dm v)):
  OpOK P n ops Γ ρ δ τ ⟨some d,.call ⟨.value (.func f),#[x],ats⟩,ty,pos,af,none⟩ .no (.c (CW (.int .u64 (v:Int)))) ET:=(Ik hf hx).sub rfl (Vy hn)
theorem Nh{x:Operand}{t:TypeId}{k:IntKind}{a z:Int}(hx:Lk Γ δ ρ x (CW (.int k a)))(hz:k.wrap (-a)=z):
  OpOK P n ops Γ ρ δ τ ⟨some d,.unOp .neg t x,ty,pos,af,none⟩ .no (.c (CW (.int k z))) ET:=
 DE fun A c _ hr=>by
  subst hz
  have h:=(hr x _ (by simp[Op.operands]) hx).1
  exact⟨.int k (k.wrap (-a)),by simp[execOp,Op.unary,Op.intArith,h],rfl,rfl⟩
end ops
theorem Nt(z:Int):IntKind.u64.wrap z=z % 18446744073709551616:=by simp[IntKind.wrap,IntKind.bits,IntKind.signed]
theorem YA{y:Nat}(h:y<2^64):Ej .and .u64 ((y/2^52:Nat):Int) 2047=((FI y:Nat):Int):=by
 rw[show(2047:Int)=((2047:Nat):Int)from rfl,NC _ _ (by omega) (by decide)]
 rw[show(2047:Nat)=2^11-1 by decide,M6]
 rfl
def Vi:Nat:=0x7fefffffffffffff
theorem el:Ieee.double.read Vi= .number false 9007199254740991 971:=by decide+kernel
theorem lV{x:Nat}(hr:G7 x<9218868437227405312):JK x≤971:=by unfold JK;split<;>omega
theorem pQ{x:Nat}(hx:x<2^64)(hr:G7 x<9218868437227405312):Gp .gtr (Kc x) Vi=false:=by
 obtain⟨q1,q2,q3,q4⟩:=YB hx hr
 have hp:=Uy x
 have hp2:=lV hr
 have hm:=Nc x
 have key:Lp (Kc x) Vi≠some .gt:=by
  unfold Lp Ieee.Format.order
  rw[Xb (show G7 (Kc x)<9218868437227405312 by omega),el,q2,q3,q4]
  simp only[Ieee.Datum.order,Ieee.signed]
  rw[show min (JK x) (971:Int)=JK x by omega,show(JK x-JK x).toNat=0 by omega,Nat.shiftLeft_zero,Nat.shiftLeft_eq]
  have h2:=Ax (971-JK x).toNat
  have h3:9007199254740991*1≤9007199254740991*2^(971-JK x).toNat:=Nat.mul_le_mul_left _ h2
  generalize 9007199254740991*2^(971-JK x).toNat=v at h3
  simp only[Cs,if_false,ne_eq,Ah]
  rw[Int.compare_eq_gt]
  omega
 show(Lp (Kc x) Vi==some .gt)=false
 simpa using key
theorem pE(x:Nat):FI x<2048:=Ap _ (by omega)
section ops
variable {P:Program} {n:Nat} {ops:Array Oper} {Γ:D2} {ρ:DU} {δ:DK} {τ:List VR}
variable {d:Nat} {ty:TypeId} {pos:String} {af:Array Edge}
theorem r8{x y:Operand}{ats:Array TypeId}{k:IntKind}{a b:Int}(hx:Lk Γ δ ρ x (CW (.int k a)))(hy:Lk Γ δ ρ y (CW (.int k b))):
  OpOK P n ops Γ ρ δ τ ⟨some d,.call ⟨.builtin .min,#[x,y],ats⟩,ty,pos,af,none⟩ .no (.c (CW (.int k (min a b)))) ET:=
 DE fun A c _ hr=>by
  have h1:=(hr x _ (by simp[Op.operands,Call.operands]) hx).1
  have h2:=(hr y _ (by simp[Op.operands,Call.operands]) hy).1
  refine⟨.int k (min a b),?_,rfl,rfl⟩
  by_cases h:b<a
  ·simp[execOp,resolve,invoke,builtin,Builtin.min_,Builtin.min2,h1,h2,h,show min a b=b by omega]
  simp[execOp,resolve,invoke,builtin,Builtin.min_,Builtin.min2,h1,h2,h,show min a b=a by omega]
end ops
structure H9 where
 k:Int
 a:Int
 n:Nat
 f:Nat
def Od(p:H9):List SP:=[I6 p.k,I6 p.a,Dm p.n,Dm p.f]
def EM:H9:=⟨0,0,0,0⟩
theorem RM(p:H9):(Od p).length=4:=rfl
def QB(ps:List H9):SP:=DL [Lq 4 Od ps]
def H4(k:Int):Int:=if k=0∨k=1∨k=4 then 1 else if k=2 then 2 else if k=3 then 3 else 0
theorem O8(k:Int):0≤H4 k∧H4 k≤3:=by unfold H4;(repeat' split)<;>omega
def Yh:Nat:=0x4630000000000000
def Py(x:Nat):Bool:=Gp .lss x 0||Gp .gtr x Yh
def Gu(p:H9):Int:=if H4 p.k=0 then 140 else if p.a<1∨12<p.a then 1 else if DF p.n=false∨DF p.f=false then 4 else if(Py p.n||Py p.f)=true then 141 else 0
theorem Nk{p:H9}(h:Gu p=0):1≤H4 p.k∧1≤p.a∧p.a≤12∧DF p.n=true∧DF p.f=true:=by
 have:=O8 p.k
 unfold Gu at h
 split at h
 ·omega
 split at h
 ·omega
 split at h
 ·omega
 rename_i h1 h2 h3
 refine⟨by omega,by omega,by omega,?_,?_⟩
 ·cases hf:DF p.n
  ·exact(h3 (.inl hf)).elim
  rfl
 cases hf:DF p.f
 ·exact(h3 (.inr hf)).elim
 rfl
def KN(ps:List H9):Nat→Int
 |0=>0
 |k+1=>KN ps k+(ps.getD k EM).a*H4 (ps.getD k EM).k
def Kj(ps:List H9)(k:Nat):Prop:= ∀ q,q<k→Gu (ps.getD q EM)=0
theorem Zf{ps:List H9}:Kj ps 0:=fun q h=>by omega
theorem Ze{ps:List H9}{k:Nat}(h:Kj ps k)(hk:Gu (ps.getD k EM)=0):Kj ps (k+1):=fun q hq=>by
 by_cases e:q=k
 ·rw[e];exact hk
 exact h q (by omega)
theorem QG{p:H9}(h:Gu p=0):1≤p.a*H4 p.k∧p.a*H4 p.k≤36:=by
 obtain⟨h1,h2,h3,_⟩:=Nk h
 have h4:=(O8 p.k).2
 have h5:1*1≤p.a*H4 p.k:=Bc h2 h1 (by omega) (by omega)
 have h6:p.a*H4 p.k≤12*3:=Bc h3 h4 (by omega) (by omega)
 omega
theorem Lf{ps:List H9}: ∀ {k:Nat},Kj ps k→(k:Int)≤KN ps k∧KN ps k≤36*k
 |0,_=>by simp[KN]
 |k+1,h=>by
  have ih:=Lf (ps:=ps) (k:=k) fun q hq=>h q (by omega)
  have:=QG (h k (by omega))
  rw[KN]
  omega
theorem XO{ps:List H9}{k:Nat}: ∀ {m:Nat},k≤m→Kj ps m→KN ps k≤KN ps m
 |0,hk,_=>by rw[show k=0 by omega];exact Int.le_refl _
 |m+1,hk,h=>by
  by_cases e:k=m+1
  ·rw[e];exact Int.le_refl _
  have ih:=XO (ps:=ps) (k:=k) (m:=m) (by omega) fun q hq=>h q (by omega)
  have:=QG (h m (by omega))
  rw[KN]
  omega
def L1(ps:List H9):Int:=if ps.length=0 then 1 else if Ih (ps.map Gu)≠0 then Ih (ps.map Gu)else if 12<KN ps ps.length then 2 else 0
theorem Rb{ps:List H9}: ∀ {k:Nat},k≤ps.length→Kj ps k→Ih (ps.map Gu)=Ih ((ps.drop k).map Gu)
 |0,_,_=>by simp
 |k+1,hk,h=>by
  rw[Rb (k:=k) (by omega) fun q hq=>h q (by omega),BZ (by omega:k<ps.length),Br,Ih]
  have h2:Gu ps[k]=0:=by
   have:=h k (by omega)
   rw[List.getD,Ag (by omega:k<ps.length)]at this
   exact this
  rw[if_pos h2]
theorem z6{ps:List H9}(h:ps.length=0):(1:Int)=L1 ps:=by unfold L1;rw[if_pos h]
theorem z7{ps:List H9}{k:Nat}(h0: ¬ps.length=0)(hk:k<ps.length)(h:Kj ps k)(he: ¬Gu (ps.getD k EM)=0):Gu (ps.getD k EM)=L1 ps:=by
 have e:Ih (ps.map Gu)=Gu (ps.getD k EM):=by
  rw[Rb (AX hk) h,BZ hk,Br,Ih,List.getD,Ag hk]
  rw[List.getD,Ag hk]at he
  exact if_neg he
 unfold L1
 rw[if_neg h0,e,if_pos he]
theorem z8{ps:List H9}(h0: ¬ps.length=0)(h:Kj ps ps.length):L1 ps=if 12<KN ps ps.length then 2 else 0:=by
 have e:Ih (ps.map Gu)=0:=by
  rw[Rb (A5 _) h,List.drop_length];rfl
 unfold L1
 rw[if_neg h0,e,if_neg (by simp)]
theorem WA{ps:List H9}(h:L1 ps=0):ps.length≠0∧Kj ps ps.length∧KN ps ps.length≤12:=by
 unfold L1 at h
 split at h
 ·omega
 rename_i h0
 split at h
 ·rename_i h1;exact(h1 h).elim
 rename_i h1
 have hp:Kj ps ps.length:=by
  have h1:Ih (ps.map Gu)=0:=by omega
  have key: ∀ (l:List Int),Ih l=0→ ∀ x,x∈l→x=0:=by
   intro l
   induction l with
   |nil=>intro _ x hx;cases hx
   |cons a l ih=>
    intro hl x hx
    rw[Mb]at hl
    rcases AH.1 hx with rfl|hx
    ·exact hl.1
    exact ih hl.2 x hx
  intro q hq
  exact key _ h1 _ (List.mem_map.2 ⟨_,IJ EM hq,rfl⟩)
 split at h
 ·omega
 exact⟨h0,hp,by omega⟩
structure IR where
 a:Int
 e:Int
def zu(x:IR):SP:=EP [I6 x.a,I6 x.e]
theorem tH{Γ:D2}{a e:Int}{x:IR}(h:(⟨a,e⟩:IR)=x):Sb Γ (EP [I6 a,I6 e]) (zu x):=by subst h;exact zL
def dJ(ps:List H9):IR:=if L1 ps=0 then⟨KN ps ps.length,0⟩else⟨0,L1 ps⟩
theorem Yy{ps:List H9}:(dJ ps).e=L1 ps:=by
 unfold dJ
 split
 ·rename_i h;exact h.symm
 rfl
theorem aA{ps:List H9}(h:L1 ps=0):dJ ps=⟨KN ps ps.length,0⟩:=if_pos h
def Hi(t:Int):NR:=if t< -1125899906842624∨1125899906842624<t then a16 1 else⟨fdiv (FloatKind.f64.nearest t) 0x412e848000000000,0⟩
theorem XF{x:Nat}(hx:x<2^64):Gp .eql (MA x x) 0=DF x:=by
 rw[dP hx]
 cases DF x<;>decide+kernel
theorem s9{α:Type}{m:Nat}{mk:α→List SP}{xs:List α}{v:Value}{c:EW}(h:(Lq m mk xs).H v c):xs.length≤9223372036854775807:=by
 obtain⟨_,hv⟩:=h
 rcases hv with ⟨_,h2⟩|⟨ad,cap,_,h2,h3,_⟩
 ·omega
 simp only[maxLen]at h3;omega
theorem Yd{X:Cx}{Γ:D2}{ρ:DU}{σ:List Res}{k:Code}{Q:Exit→Act→World→Prop}(t:Nat){ps:List H9}(h:ρ.get t=some (QB ps))(hk:ps.length≤9223372036854775807→J X Γ ρ σ k Q):J X Γ ρ σ k Q:=fun a w hs=>by
 obtain⟨cs,_,_,h3⟩:=hs.env t _ h
 obtain⟨u,_,_,hu⟩:=h3 0 _ rfl
 exact hk (s9 hu) a w hs
theorem Il{k:Int}(h:k=0∨k=1∨k=4):H4 k=1:=if_pos h
theorem Im{k:Int}(h:k=2):H4 k=2:=by subst h;rfl
theorem Io{k:Int}(h:k=3):H4 k=3:=by subst h;rfl
theorem Ip{k:Int}(h1: ¬(k=0∨k=1∨k=4))(h2: ¬k=2)(h3: ¬k=3):H4 k=0:=by unfold H4;rw[if_neg h1,if_neg h2,if_neg h3]
theorem sK{ps:List H9}{k:Nat}(hp:Kj ps k)(h:Gu (ps.getD k EM)=0):min (min (KN ps k) 13+(ps.getD k EM).a*H4 (ps.getD k EM).k) 13=min (KN ps (k+1)) 13:=by
 have:=QG h
 rw[KN]
 omega
theorem kt{x y:Nat}(h:((Gp .lss x 0=false∧Gp .lss y 0=false)∧Gp .gtr x Yh=false)∧Gp .gtr y Yh=false): ¬(Py x||Py y)=true:=by
 unfold Py
 obtain⟨⟨⟨h1,h2⟩,h3⟩,h4⟩:=h
 rw[h1,h2,h3,h4]
 decide
theorem qz{x y:Nat}:(Py x||Py y)=true↔((Gp .lss x 0=true∨Gp .lss y 0=true)∨Gp .gtr x Yh=true)∨Gp .gtr y Yh=true:=by
 unfold Py
 cases Gp .lss x 0<;>cases Gp .lss y 0<;>cases Gp .gtr x Yh<;>cases Gp .gtr y Yh<;>simp
abbrev BF:=H9→Nat→List (List Nat)
def H7:BF:=fun p d=>if p.k=2 then [[oK,d],[0,oK]]else if p.k=3 then [[oK,d,fdiv (Ft d d) 0x4000000000000000],[0,oK,d],[0,0,oK]]else if p.k=4 then [[fdiv oK (TV oK (Ft p.f d))]]else [[oK]]
def Lu(k:Int)(a b d:Nat):List (List Nat):=if k=1∨k=4 then [[a]]else if k=2 then [[fdiv (Ft (Ft a d) d) 0x4008000000000000,b],[b,a]]
 else if k=3 then [[fdiv (Ft (Ft (Ft (Ft a d) d) d) d) 0x4034000000000000,fdiv (Ft (Ft (Ft a d) d) d) 0x4020000000000000,fdiv (Ft (Ft a d) d) 0x4018000000000000],[fdiv (Ft (Ft (Ft a d) d) d) 0x4020000000000000,fdiv (Ft (Ft a d) d) 0x4008000000000000,b],[fdiv (Ft (Ft a d) d) 0x4018000000000000,b,a]]else [[0]]
def Ea:BF:=fun p d=>Lu p.k (Ft p.n d) (fdiv (Ft (Ft p.n d) d) 0x4000000000000000) d
def BOk(g:BF):Prop:= ∀ p d,1≤H4 p.k→((g p d).length:Int)=H4 p.k∧ ∀ i,i<(g p d).length→((g p d).getD i []).length=(g p d).length
theorem iL{g:BF}(h1: ∀ p d,p.k=0∨p.k=1∨p.k=4→ ∃ a,g p d=[[a]])(h2: ∀ p d,p.k=2→ ∃ a b c e,g p d=[[a,b],[c,e]])(h3: ∀ p d,p.k=3→ ∃ a b c e f i j k l,g p d=[[a,b,c],[e,f,i],[j,k,l]]):BOk g:=by
 intro p d ho
 by_cases e1:p.k=0∨p.k=1∨p.k=4
 ·obtain⟨a,ha⟩:=h1 p d e1
  rw[ha,Il e1]
  refine⟨rfl,fun i hi=>?_⟩
  simp at hi
  subst hi
  rfl
 by_cases e2:p.k=2
 ·obtain⟨a,b,c,e,ha⟩:=h2 p d e2
  rw[ha,Im e2]
  refine⟨rfl,fun i hi=>?_⟩
  have:i=0∨i=1:=by simp at hi;omega
  rcases this with rfl|rfl<;>rfl
 by_cases e3:p.k=3
 ·obtain⟨a,b,c,e,f,i',j,k,l,ha⟩:=h3 p d e3
  rw[ha,Io e3]
  refine⟨rfl,fun i hi=>?_⟩
  have:i=0∨i=1∨i=2:=by simp at hi;omega
  rcases this with rfl|rfl|rfl<;>rfl
 rw[Ip e1 e2 e3]at ho
 omega
theorem kW:BOk H7:=iL
 (fun p d h=>by
  unfold H7
  rw[if_neg (by omega),if_neg (by omega)]
  split<;>exact⟨_,rfl⟩)
 (fun p d h=>by unfold H7;rw[if_pos h];exact⟨_,_,_,_,rfl⟩)
 (fun p d h=>by unfold H7;rw[if_neg (by omega),if_pos h];exact⟨_,_,_,_,_,_,_,_,_,rfl⟩)
theorem eU:BOk Ea:=iL
 (fun p d h=>by
  unfold Ea Lu
  split
  ·exact⟨_,rfl⟩
  rw[if_neg (by omega),if_neg (by omega)];exact⟨_,rfl⟩)
 (fun p d h=>by unfold Ea Lu;rw[if_neg (by omega),if_pos h];exact⟨_,_,_,_,rfl⟩)
 (fun p d h=>by unfold Ea Lu;rw[if_neg (by omega),if_neg (by omega),if_pos h];exact⟨_,_,_,_,_,_,_,_,_,rfl⟩)
def jT(B:List (List Nat))(n fr:Int)(i:Nat)(xs:List Nat):Nat→List Nat
 |0=>xs
 |j+1=>(jT B n fr i xs j).set ((fr+i)*n+fr+j).toNat ((B.getD i []).getD j 0)
def YP(B:List (List Nat))(n fr:Int)(xs:List Nat):Nat→List Nat
 |0=>xs
 |i+1=>jT B n fr i (YP B n fr xs i) (B.getD i []).length
def Wb(B:List (List Nat))(n fr:Int)(xs:List Nat):Nat→List Nat
 |0=>xs
 |a+1=>YP B n (fr+a*B.length) (Wb B n fr xs a) B.length
def Rk(g:BF)(d:Nat)(ps:List H9)(n:Int):Nat→List Nat
 |0=>List.replicate (n*n).toNat 0
 |k+1=>Wb (g (ps.getD k EM) d) n (KN ps k) (Rk g d ps n k) (ps.getD k EM).a.toNat
theorem Rj{B:List (List Nat)}{n fr:Int}{i:Nat}{xs:List Nat}: ∀ {j:Nat},(jT B n fr i xs j).length=xs.length
 |0=>rfl
 |j+1=>by rw[jT,Aa,Rj]
theorem Ri{B:List (List Nat)}{n fr:Int}{xs:List Nat}: ∀ {i:Nat},(YP B n fr xs i).length=xs.length
 |0=>rfl
 |i+1=>by rw[YP,Rj,Ri]
theorem Rh{B:List (List Nat)}{n fr:Int}{xs:List Nat}: ∀ {a:Nat},(Wb B n fr xs a).length=xs.length
 |0=>rfl
 |a+1=>by rw[Wb,Ri,Rh]
theorem Wc{g:BF}{d:Nat}{ps:List H9}{n:Int}: ∀ {k:Nat},(Rk g d ps n k).length=(n*n).toNat
 |0=>by rw[Rk,Am]
 |k+1=>by rw[Rk,Rh,Wc]
theorem fv{n x y:Int}(hx0:0≤x)(hx:x<n)(hy0:0≤y)(hy:y<n):0≤x*n∧x*n≤n*n-n:=by
 have h1:0≤x*n:=Ae hx0 (by omega)
 have h2:x*n≤(n-1)*n:=Af (by omega) (by omega)
 rw[Int.sub_mul]at h2
 omega
theorem wC{n:Int}(h0:0≤n)(h1:n≤12):0≤n*n∧n*n≤144:=by
 have:=Ae h0 h0
 have h2:n*n≤12*12:=Bc h1 h1 h0 (by omega)
 omega
theorem y7{ps:List H9}{k:Nat}{a:Nat}(hg:Kj ps ps.length)(ht:KN ps ps.length≤12)(hk:k<ps.length)(ha:(a:Int)<(ps.getD k EM).a):
  0≤KN ps k∧0≤(a:Int)*H4 (ps.getD k EM).k∧KN ps k+(a:Int)*H4 (ps.getD k EM).k+H4 (ps.getD k EM).k≤KN ps ps.length∧1≤H4 (ps.getD k EM).k:=by
 have h1:=Lf (ps:=ps) (k:=k) fun q hq=>hg q (by omega)
 have h2:=XO (ps:=ps) (k:=k+1) (m:=ps.length) (by omega) hg
 obtain⟨h3,h4,h5,_⟩:=Nk (hg k hk)
 have h6:((a:Int)+1)*H4 (ps.getD k EM).k≤(ps.getD k EM).a*H4 (ps.getD k EM).k:=Af (by omega) (by omega)
 have h7:0≤(a:Int)*H4 (ps.getD k EM).k:=Ae (by omega) (by omega)
 rw[AJ,AK]at h6
 rw[KN]at h2
 omega
def IY(g:BF)(ps:List H9)(t:Int):MR:=if L1 ps≠0 then QH (L1 ps)else if t<0∨1125899906842624<t then QH 1 else M0 (KN ps ps.length) (KN ps ps.length) (Rk g (Hi t).a ps (KN ps ps.length) ps.length)
theorem a08{r c:Int}(hs:KK r c):(Oq r=false∨Oq c=false)=False:=by
 obtain⟨h1,h2,h3,h4⟩:=hs
 have e1:Oq r=true:=KI.2 ⟨h1,h2⟩
 have e2:Oq c=true:=KI.2 ⟨h3,h4⟩
 rw[e1,e2]
 simp
theorem S0{r c:Int}(hs:KK r c):List.replicate (r.toNat*c.toNat) (0:Nat)=List.replicate (r*c).toNat 0:=by
 obtain⟨h1,h2,h3,h4⟩:=hs
 rw[Int.toNat_mul h1 h3]
theorem uF{g:BF}{ps:List H9}{t:Int}(h: ¬L1 ps=0):QH (L1 ps)=IY g ps t:=by unfold IY;rw[if_pos h]
theorem uG{g:BF}{ps:List H9}{t:Int}(h:L1 ps=0)(h2:t<0∨1125899906842624<t):QH 1=IY g ps t:=by unfold IY;rw[if_neg (by simp[h]),if_pos h2]
theorem iK{g:BF}{ps:List H9}{t n:Int}{k:Nat}(h:L1 ps=0)(h2: ¬(t<0∨1125899906842624<t))(hn:n=KN ps ps.length)(hk:k=ps.length):M0 n n (Rk g (Hi t).a ps n k)=IY g ps t:=by
 subst hk hn
 unfold IY
 rw[if_neg (by simp[h]),if_neg h2]
theorem oO{x L:Int}{a:Nat}:x+(a:Int)*L+L=x+((a+1:Nat):Int)*L:=by
 rw[Bf,AJ]
 omega
def SW(x:Nat):Nat:=ti (Ieee.double.sqrt x)
theorem rO{x d:Ieee.Datum}{n:Nat}(h:x.root n=some d):d.isNaN=false∧x.isNaN=false:=by
 cases x with
 |nan s f=>simp only[Ieee.Datum.root]at h;cases h
 |infinity s=>
  simp only[Ieee.Datum.root]at h
  split at h
  ·cases h
  cases h;exact⟨rfl,rfl⟩
 |number s m i=>
  simp only[Ieee.Datum.root]at h
  split at h
  ·cases h;exact⟨rfl,rfl⟩
  split at h
  ·cases h
  cases h;exact⟨rfl,rfl⟩
theorem Pg{x r:Nat}(h:Ieee.double.sqrt x=some r):FN r=false∧r<2^64∧FN x=false:=by
 unfold Ieee.Format.sqrt at h
 rw[CN]at h
 obtain⟨d,h1,rfl⟩:=h
 obtain⟨h2,h3⟩:=rO h1
 exact⟨(M4 h2).1,(M4 h2).2,h3⟩
theorem jm{x:Nat}:SW (cn x)=match Ieee.double.sqrt x with|some r=>r|none=>oJ:=by
 unfold SW
 cases h:Ieee.double.sqrt x with
 |some r=>
  obtain⟨_,_,h1⟩:=Pg h
  rw[EA h1,h];rfl
 |none=>
  cases h':Ieee.double.sqrt (cn x)with
  |none=>rfl
  |some r=>
   obtain⟨_,_,h1⟩:=Pg h'
   rw[Mn]at h1
   rw[EA h1,h]at h'
   cases h'
section ops
variable {P:Program} {n:Nat} {ops:Array Oper} {Γ:D2} {ρ:DU} {δ:DK} {τ:List VR}
variable {d:Nat} {ty:TypeId} {pos:String} {af:Array Edge}
theorem jS{x:Nat}: ∀ (v:Value) (c:EW),(Dm x).H v c→ ∃ u m,(Go.Extern.MathSqrt.sqrt #[v]).run P c.w= .ok u {c.w with drawn:=m}∧ ∀ c',(Dm (SW x)).H u c':=by
 rintro v c ⟨b,h1,h2,h3⟩
 subst h1 h3
 rw[jm]
 have hF:Go.Extern.MathSqrt.sqrt #[.float .f64 b]=(match Ieee.double.sqrt b with|some r=>pure (.float .f64 r)|none=>do pure (.float .f64 (←choose (.nanBits .f64 b b)))):=rfl
 cases hs:Ieee.double.sqrt b with
 |some r=>
  obtain⟨g1,g2,_⟩:=Pg hs
  exact⟨.float .f64 r,c.w.drawn,by rw[hF,hs];simp[Sem.run],fun _=>⟨r,rfl,g2,EA g1⟩⟩
 |none=>
  refine⟨.float .f64 ((Question.nanBits .f64 b b).cut (c.w.tape c.w.drawn (.nanBits .f64 b b))),c.w.drawn+1,?_,fun _=>⟨_,rfl,(Mo .nanBits (.inl rfl) b b _).2,Hr (Mo .nanBits (.inl rfl) b b _).1⟩⟩
  rw[hF,hs]
  simp[choose,Sem.run,Question.forced]
theorem Z4{f:Nat}{x:Operand}{v:Nat}{ats:Array TypeId}(hf:Ya P f Go.Extern.MathSqrt.sqrt)(hx:Lk Γ δ ρ x (Dm v)):
  OpOK P n ops Γ ρ δ τ ⟨some d,.call ⟨.value (.func f),#[x],ats⟩,ty,pos,af,none⟩ .no (.c (Dm (SW v))) ET:=Uq hf hx jS
end ops
def UU:Nat:=9007199254740992
end Go.Bn
