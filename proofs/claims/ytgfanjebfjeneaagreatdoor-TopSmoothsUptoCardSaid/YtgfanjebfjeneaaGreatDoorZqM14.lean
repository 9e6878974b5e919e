/- Printed by a program of ours (walk.py): walks of the greatest common divisor (64-bit words). -/
import Derived.Test.YtgfanjebfjeneaaGreatDoorZqM1
import Derived.Test.YtgfanjebfjeneaaGreatDoorProg
import Derived.KernelRfl
import Derived.Test.YtgfanjebfjeneaaGreatDoorZqM11
import Derived.Test.YtgfanjebfjeneaaGreatDoorZqM13
import Derived.Test.YtgfanjebfjeneaaGreatDoorZqM7
import Derived.Test.YtgfanjebfjeneaaGreatDoorZqM12
import Derived.Test.YtgfanjebfjeneaaGreatDoorZqM5
set_option linter.unusedVariables false
set_option linter.unusedSimpArgs false
set_option maxRecDepth 20000
set_option maxHeartbeats 8000000
namespace Go.Proofs.YtgfanjebfjeneaaGreatDoor
open Go Go.Bn Go.Proofs.Tryz
attribute [local irreducible] OpOK
theorem nT{X n:Nat}(hX:(CQ X).length≤250000000000)(hn:n≤100000000000000):Ct prog 208 [DP .u64 (CQ X),I6 (n:Int)] (CW (.int .u64 (((X/2^n % 18446744073709551616:Nat):Int)))):=by
 refine Ct.of func208 rfl (by kernel_rfl) rfl fun c0=>?_
 have hs64:n % 64<64:=Ap _ (by omega)
 have hm:=D9 X
 have gx:=H1 hm (n/64)
 have gy:=H1 hm (n/64+1)
 refine zV (.b rfl<|.nil) rfl fun g1=>CY (E2 0 1 rfl)<|zW (.m rfl<|.n (Gq (.t rfl) (.k rfl) (by omega) (show IntKind.i64.wrap ((n:Int).tdiv 64)=((n/64:Nat):Int) by rw[Cw (by omega),zO (by omega) (by omega)];omega))<|.m rfl<|.n (Gr (.t rfl) (.k rfl) (by omega) (show(n:Int).tmod 64=((n % 64:Nat):Int) by rw[BY (by omega)];omega))<|.n (xg KL I8 rfl (DD (by omega) (by omega)))<|.a rfl<|.z rfl) rfl fun g2=>CY (E3 0 5 6 rfl)<|zW (.mm rfl<|.n (zP (IF) (A2 rfl))<|.m rfl<|.n (GV (.t rfl) (.t rfl) (by omega) (gg (by omega)))<|.mm rfl<|.n (xo rfl (show IntKind.i64.wrap (((n/64:Nat):Int)+1)=((n/64+1:Nat):Int) by rw[zO (by omega) (by omega)];omega))<|.n (zP (IF) (A2 rfl))<|.m rfl<|.n (Eb (.k rfl) (.t rfl) (XD hs64))<|.n (GD (.t rfl) (.t rfl) (by omega) rfl)<|.n (Ep (by simp) (.t rfl) (.t rfl) (mK gx gy hs64))<|.z rfl) rfl fun g3=>CY (E1 4 rfl)<|De<|DO rfl<|Dc ((bZ (i:=0)).trans sJ)
theorem dq{X Y:Int}(h0:0≤Y)(h1:Y≤X)(h2:X<18446744073709551616):Ct prog 207 [CW (.int .u64 (X)),CW (.int .u64 (Y))] (yh fun w:{w:ub//uc X Y w}=>w.1.sp):=by
 refine Ct.of func207 rfl (by kernel_rfl) rfl fun c0=>DS<|zV (.w 0 (xj 0 cR rfl)<|.nil) rfl fun g1=>CZ 0 (E3 0 1 4 rfl) rfl<|zC<|DS<|zV (.n (D1 cR rfl zk (.cons rfl (.k rfl) D7 rfl (yU rfl (A8 rfl)) (.cons rfl (.k rfl) D7 rfl (yU rfl (A8 rfl)) .nil)))<|.w 1 (xj 1 cR rfl)<|.w 1 (xm 1 rfl yL nO rfl)<|.nil) rfl fun g2=>nx (E4 0 1 4 5 rfl) (R2 0 1 rfl)<|zW (.b rfl<|.b rfl<|.nil) rfl fun g3=>nx (E6 0 1 4 5 6 7 rfl) (R2 0 1 rfl)<|Dd<|zT<|D4 (α:=Int×Int×Int×Int×Int×Int×Int×Int×Int) (fun z=>wX X Y z.1 z.2.1 z.2.2.1 z.2.2.2.1 z.2.2.2.2.1 z.2.2.2.2.2.1 z.2.2.2.2.2.2.1 z.2.2.2.2.2.2.2.1 z.2.2.2.2.2.2.2.2∧z.1<18446744073709551616∧z.2.1<18446744073709551616∧z.2.2.1<18446744073709551616∧z.2.2.2.1<18446744073709551616) (fun z=>z.2.2.2.2.2.2.2.1.toNat) (fun z restR=>(0,CW (.int .u64 (z.2.2.2.2.2.2.1)))::(1,CW (.int .u64 (z.2.2.2.2.2.2.2.1)))::(6,CW (.int .u64 (z.2.2.2.2.1)))::(7,CW (.int .u64 (z.2.2.2.2.2.1)))::restR) (fun z restS=>Dh (g2 5) [CW (.int .u64 (z.1)),CW (.int .u64 (z.2.1)),CW (.int .u64 (z.2.2.1)),CW (.int .u64 (z.2.2.2.1)),CW (.bool (decide (z.2.2.2.2.2.2.2.2=1)))] 270::restS) (ρc:=[(4,_),(5,_)]) (σc:=[_]) (0,0,1,0,0,1,X,Y,1) (by exact⟨nH h0 h1,show(0:Int)<_ by decide,show(0:Int)<_ by decide,show(1:Int)<_ by decide,show(0:Int)<_ by decide⟩) (Es (fun _=>E6 0 1 6 7 4 5 rfl) fun _=>R2 1 0 rfl) (fun z hI=>?_)
 obtain⟨a,b,c,d,u,v,x,y,s⟩:=z
 try simp only at hI
 show J _ _ ((0,CW (.int .u64 (x)))::(1,CW (.int .u64 (y)))::(6,CW (.int .u64 (u)))::(7,CW (.int .u64 (v)))::_) (Dh (g2 5) [CW (.int .u64 (a)),CW (.int .u64 (b)),CW (.int .u64 (c)),CW (.int .u64 (d)),CW (.bool (decide (s=1)))] 270::_) _ _
 have hIb:a<18446744073709551616∧b<18446744073709551616∧c<18446744073709551616∧d<18446744073709551616:=hI.2
 refine zF<|zV (.mm rfl<|.n (xw rfl)<|.m rfl<|.n (gu rfl (fun hC=>(xB rfl)))<|.n (gu rfl (fun hC=>(xB rfl)))<|.n (gu rfl (fun hC=>(Eb (.w rfl hC) (.w rfl hC) rfl)))<|.n (gu rfl (fun hC=>(xe Ma rfl)))<|.r 0 (gu rfl (fun hC=>(zN 0 Fa (.w rfl hC) rfl zJ rfl)))<|.n (gu rfl (fun hC=>(xB rfl)))<|.n (gu rfl (fun hC=>(yK (.w rfl hC) (.w rfl hC) rfl)))<|.n (gu rfl (fun hC=>(oc rfl (.w rfl hC) (.w rfl hC) rfl)))<|.n (EO (.t rfl) (fun h2=>(.w rfl h2)))<|.nil) rfl fun g4=>nx (E7 0 1 4 5 6 7 22 rfl) (R2 0 1 rfl)<|zC<|zh rfl (fun h1=>?_) (fun h1=>?_)<;>have h1':=h1<;>try simp only[CT,Z]at h1
 ·have hIv:=hI.1.v1
  have hIy:=hI.1.y0
  have hIx:=hI.1.yx
  have hh:=h1
  have hyv:v≤y:=by omega
  obtain⟨r1,r2,r3,r4,r5,r6⟩:=si hI.1 hyv h2
  have hdv:d+v≤x-y:=by have h:=h1';simp only[CT,Ao,decide_eq_true_eq]at h;rw[DD r3 (by omega),DD (by have:=hI.1.d0;omega) (by omega)]at h;omega
  obtain⟨hst,q1,qu,qv,qd,qc⟩:=nG hI.1 hyv hdv rfl
  have hc0:=hI.1.c0
  have hd0:=hI.1.d0
  have hu0:=hI.1.u0
  have hs1:=hI.1.s1
  refine yE<|zC<|zT<|zV (.mm rfl<|.n (Gq (.t rfl) (.t rfl) (by omega) (RP (by omega) (by omega) (by omega)))<|.z rfl) rfl fun g5=>nx (E7 0 1 4 5 6 7 8 rfl) (R2 0 1 rfl)<|zC<|zF (zG [[],[],[],[1,2],[0,1],[0,1,2,3,4]] (.mm rfl<|.m rfl<|.n (Gr (.t rfl) (.t rfl) (by omega) (BY (by omega)))<|.a rfl<|.z rfl) (fun _=>Di) rfl fun g6=>nx (E7 0 1 4 5 6 7 8 rfl) (R2 0 1 rfl) ?_)
  refine zW (.n (xe NN rfl)<|.r 0 (xf 0 Fa rfl zJ rfl)<|.m rfl<|.n (xe NN rfl)<|.r 0 (xf 0 Fa rfl zJ rfl)<|.mm rfl<|.n (xu rfl (DD (by omega) (by omega)))<|.n (xq rfl (DD (by omega) (by omega)))<|.n (xe U3 rfl)<|.w 0 (xn 0 rfl D7 J4 rfl)<|.n (xe NN rfl)<|.w 0 (xn 0 rfl D7 J4 rfl)<|.z rfl) rfl fun g7=>nx (E7 0 1 4 5 6 7 8 rfl) (R2 0 1 rfl)<|zW (.n (xe Ma rfl)<|.r 0 (xf 0 Fa rfl zJ rfl)<|.m rfl<|.n (xe Ma rfl)<|.r 0 (xf 0 Fa rfl zJ rfl)<|.mm rfl<|.n (xu rfl (DD (by omega) (by omega)))<|.n (xq rfl (DD (by omega) (by omega)))<|.n (xe Q7 rfl)<|.w 0 (xn 0 rfl D7 J4 rfl)<|.n (xe Ma rfl)<|.w 0 (xn 0 rfl D7 J4 rfl)<|.z rfl) rfl fun g8=>nx (E6 0 1 4 5 6 7 rfl) (R2 0 1 rfl)<|zC<|(zG [] (.n (xe U4 rfl)<|.r 0 (xf 0 Kg rfl zJ rfl)<|.n (EI (.t rfl))<|.n (xe U4 rfl)<|.w 0 (xn 0 rfl D7 sF rfl)<|.nil) ff rfl fun g9=>nx (E6 0 1 4 5 6 7 rfl) (R2 0 1 rfl) ?_)
  refine zR<|yW (c,d,u,v,c+x/y*u,d+x/y*v,y,x % y,-s) (by exact⟨hst,by show c<_;omega,by show d<_;omega,by show u<_;omega,by show v<_;omega⟩) (by show(x % y).toNat<y.toNat;have:=AB x (show 0<y by omega);omega) (To.pick (fun _=>E6 0 1 6 7 4 5 rfl) (fun _=> .sub 0 rfl (yQ (by rw[za hs1]))<|.k 1 rfl<|.nil) (ks:=[0,1]) rfl)
 have hcp:=uK hI.1 hI.2
 refine D6<|zE<|zE<|zS<|zW (.r 0 (xc 0 iq rfl zJ rfl)<|.w 1 (xn 1 rfl yL nO rfl)<|.nil) rfl fun g10=>CZ 1 (E1 4 rfl) rfl<|De<|zQ (.cons (.ag 0 (.t rfl) iq rfl rfl rfl)<|.nil) (zM (yD zL) ?_)
 exact UM ⟨_,hcp⟩ zL
theorem im{X Y X2 Y2:Nat}{w:ub}{x y:Int}(hw:uc x y w)(hX:(CQ X).length≤100000000000)(hY:(CQ Y).length≤100000000000)(h1:(X2:Int)= -w.s*(w.a*X-w.b*Y))(h2:(Y2:Int)= -w.s*(w.d*Y-w.c*X))(hs:w.s=1∨w.s= -1):Ct prog 209 [w.sp,DP .u64 (CQ X),DP .u64 (CQ Y)] (EP [DP .u64 (CQ X2),DP .u64 (CQ Y2)]):=by
 refine Ct.of func209 rfl (by kernel_rfl) rfl fun c0=>?_
 obtain⟨a,b,c,d,s⟩:=w
 obtain⟨wa,wb,wc,wd,_⟩:=hw
 simp only at wa wb wc wd h1 h2 hs
 have hdX:=D9 X
 have hdY:=D9 Y
 have hmX:=Do X
 have hmY:=Do Y
 have lxa:=O2 (X:=X) wa
 have lxc:=O2 (X:=X) wc
 have lyb:=O2 (X:=Y) wb
 have lyd:=O2 (X:=Y) wd
 show J _ _ ((0,DL [CW (.int .u64 a),CW (.int .u64 b),CW (.int .u64 c),CW (.int .u64 d),CW (.bool (decide (s=1)))])::_) _ _ _
 refine DS<|zV (.w 0 (xa 0 rfl yL rfl)<|.b rfl<|.b rfl<|.nil) rfl fun g1=>CZ 0 (E3 1 2 3 rfl) rfl<|Dd<|zV (.n (xe U4 rfl)<|.r 0 (xf 0 Kg rfl zJ rfl)<|.nil) rfl fun g2=>CZ 0 (E4 1 2 3 9 rfl) rfl<|zC<|zh rfl (fun h1=>?_) (fun h1=>?_)<;>have h1':=h1<;>try simp only[CT,Z]at h1
 ·have hs1:s=1:=of_decide_eq_true h1'
  subst hs1
  have k1:(CS (CQ X)*a+0).toNat≤(CS (CQ Y)*b+0).toNat:=by rw[hmX,hmY,Ab,Ab (Y:Int)];omega
  have k2:(CS (CQ Y)*d+0).toNat≤(CS (CQ X)*c+0).toNat:=by rw[hmX,hmY,Ab,Ab (X:Int)];omega
  refine zF (zG [[],[],[1],[0,1,2],[],[],[5],[0,1,2,3,4,5,6],[0,1,2,3,4,5,6,7],[],[],[10],[0,1,2,3,4,5,6,7,8,9,10,11],[],[],[14],[0,1,2,3,4,5,6,7,8,9,10,11,12,13,14,15],[0,1,2,3,4,5,6,7,8,9,10,11,12,13,14,15,16],[0,1,2,3,4,5,6,7,8,9,10,11,12,13,14,15,16,17],[0,1,2,3,4,5,6,7,8,9,10,11,12,13,14,15,16,17,18]] (.m rfl<|.n (xe Q7 rfl)<|.r 0 (xf 0 Fa rfl zJ rfl)<|.n (zP (JZ hdY (by omega) wb (by omega)) ⟨(.t rfl),(.t rfl),(.k rfl),trivial⟩)<|.m rfl<|.n (xe U3 rfl)<|.r 0 (xf 0 Fa rfl zJ rfl)<|.n (zP (JZ hdX (by omega) wa (by omega)) ⟨(.t rfl),(.t rfl),(.k rfl),trivial⟩)<|.n (zP (KB (D9 _) (D9 _) (Ak lyb (by omega)) (Ak lxa (by omega)) (Mh k1) (Mm k1)) (A2 rfl))<|.m rfl<|.n (xe NN rfl)<|.r 0 (xf 0 Fa rfl zJ rfl)<|.n (zP (JZ hdX (by omega) wc (by omega)) ⟨(.t rfl),(.t rfl),(.k rfl),trivial⟩)<|.m rfl<|.n (xe Ma rfl)<|.r 0 (xf 0 Fa rfl zJ rfl)<|.n (zP (JZ hdY (by omega) wd (by omega)) ⟨(.t rfl),(.t rfl),(.k rfl),trivial⟩)<|.n (zP (KB (D9 _) (D9 _) (Ak lxc (by omega)) (Ak lyd (by omega)) (Mh k2) (Mm k2)) (A2 rfl))<|.a rfl<|.z rfl) (fun _=>Di) rfl fun g3=>CY (E2 6 7 rfl) ?_)
  refine De<|zD<|Lt rfl<|D3 (by simp only[Do];rw[Ab (Y:Int) b,Ab (X:Int) a,Ab (X:Int) c,Ab (Y:Int) d,TJ (Z:=X2) wb wa (by omega),TJ (Z:=Y2) wc wd (by omega)])
 have hs1:s= -1:=by rcases hs with e|e;exact absurd e (of_decide_eq_false h1');exact e
 subst hs1
 have k1:(CS (CQ Y)*b+0).toNat≤(CS (CQ X)*a+0).toNat:=by rw[hmX,hmY,Ab,Ab (X:Int)];omega
 have k2:(CS (CQ X)*c+0).toNat≤(CS (CQ Y)*d+0).toNat:=by rw[hmX,hmY,Ab,Ab (Y:Int)];omega
 refine yE<|zC<|zF (zG [[],[],[1],[0,1,2],[],[],[5],[0,1,2,3,4,5,6],[0,1,2,3,4,5,6,7],[],[],[10],[0,1,2,3,4,5,6,7,8,9,10,11],[],[],[14],[0,1,2,3,4,5,6,7,8,9,10,11,12,13,14,15],[0,1,2,3,4,5,6,7,8,9,10,11,12,13,14,15,16],[0,1,2,3,4,5,6,7,8,9,10,11,12,13,14,15,16,17],[0,1,2,3,4,5,6,7,8,9,10,11,12,13,14,15,16,17,18]] (.m rfl<|.n (xe U3 rfl)<|.r 0 (xf 0 Fa rfl zJ rfl)<|.n (zP (JZ hdX (by omega) wa (by omega)) ⟨(.t rfl),(.t rfl),(.k rfl),trivial⟩)<|.m rfl<|.n (xe Q7 rfl)<|.r 0 (xf 0 Fa rfl zJ rfl)<|.n (zP (JZ hdY (by omega) wb (by omega)) ⟨(.t rfl),(.t rfl),(.k rfl),trivial⟩)<|.n (zP (KB (D9 _) (D9 _) (Ak lxa (by omega)) (Ak lyb (by omega)) (Mh k1) (Mm k1)) (A2 rfl))<|.m rfl<|.n (xe Ma rfl)<|.r 0 (xf 0 Fa rfl zJ rfl)<|.n (zP (JZ hdY (by omega) wd (by omega)) ⟨(.t rfl),(.t rfl),(.k rfl),trivial⟩)<|.m rfl<|.n (xe NN rfl)<|.r 0 (xf 0 Fa rfl zJ rfl)<|.n (zP (JZ hdX (by omega) wc (by omega)) ⟨(.t rfl),(.t rfl),(.k rfl),trivial⟩)<|.n (zP (KB (D9 _) (D9 _) (Ak lyd (by omega)) (Ak lxc (by omega)) (Mh k2) (Mm k2)) (A2 rfl))<|.a rfl<|.z rfl) (fun _=>Di) rfl fun g4=>CY (E2 6 7 rfl) ?_)
 refine De<|Lt rfl<|D3 (by simp only[Do];rw[Ab (Y:Int) b,Ab (X:Int) a,Ab (X:Int) c,Ab (Y:Int) d,TJ (Z:=X2) wa wb (by omega),TJ (Z:=Y2) wd wc (by omega)])
theorem Ly{X Y:Nat}(hX:(CQ X).length≤1000000000)(hY:(CQ Y).length≤1000000000):Ct prog 166 [DP .u64 (CQ X),DP .u64 (CQ Y)] (DP .u64 (CQ (Nat.gcd X Y))):=by
 refine Ct.of func166 rfl (by kernel_rfl) rfl fun c0=>?_
 have hmx:(CQ (max X Y)).length≤1000000000:=by rcases Nat.le_total X Y with e|e;rw[Cr e];exact hY;rw[Cq e];exact hX
 refine zV (.b rfl<|.nil) rfl fun g1=>CY (E2 0 1 rfl)<|Dd<|zV (.mm rfl<|.n (zP (Qh) (A2 rfl))<|.n (xd rfl)<|.nil) rfl fun g2=>CY (E3 0 1 16 rfl)<|zC<|OJ (ρc:=[]) (ρ1:=[(0,DP .u64 (CQ (max X Y))),(1,DP .u64 (CQ (min X Y)))]) (σ':=[]) (Es (fun _=> .nil) fun _=>R0) ?_ ?_
 ·skip
  refine zh rfl (fun h1=>?_) (fun h1=>?_)<;>have h1':=h1<;>try simp only[CT,Z]at h1
  ·refine(zG [] (.mm rfl<|.a rfl<|.z rfl) ff rfl fun g3=>CY (E2 0 1 rfl) ?_)
   exact GZ (Es (fun _=> .sub (t:=0) rfl (D3 (by first|rw[Cr (AX (IA h1'))]|rw[Cq (BQ (Iz h1'))]))<|.sub (t:=1) rfl (D3 (by first|rw[At (AX (IA h1'))]|rw[Nat.min_eq_right (BQ (Iz h1'))]))<|.nil) fun _=>R0)
  refine yE<|GZ (Es (fun _=> .sub (t:=0) rfl (D3 (by first|rw[Cr (AX (IA h1'))]|rw[Cq (BQ (Iz h1'))]))<|.sub (t:=1) rfl (D3 (by first|rw[At (AX (IA h1'))]|rw[Nat.min_eq_right (BQ (Iz h1'))]))<|.nil) fun _=>R0)
 skip
 refine zF<|zT<|D4 (α:=Nat×Nat) (fun z=>z.2≤z.1∧Nat.gcd z.1 z.2=Nat.gcd X Y∧z.1≤max X Y) (fun z=>z.2) (fun z restR=>(0,DP .u64 (CQ z.1))::(1,DP .u64 (CQ z.2))::restR) (fun z restS=>restS) (ρc:=[]) (σc:=[]) (max X Y,min X Y) (by exact⟨by show min X Y≤max X Y;omega,jo,A5 _⟩) (Es (fun _=>E2 0 1 rfl) fun _=>R0) (fun z hI=>?_)
 obtain⟨A,B⟩:=z
 try simp only at hI
 show J _ _ ((0,DP .u64 (CQ A))::(1,DP .u64 (CQ B))::_) (_) _ _
 refine zF<|zV (.m rfl<|.n (xv Df rfl)<|.n (xd rfl)<|.nil) rfl fun g4=>CY (E3 0 1 21 rfl)<|zC<|zh rfl (fun h2=>?_) (fun h2=>?_)<;>try simp only[CT,Z]at h2
 ·have hA9:(CQ A).length≤1000000000:=Ak (Fw hI.2.2) hmx
  have hB9:=Ak (Fw hI.1) hA9
  obtain⟨n,hn,hn2,hn3⟩:=iJ (A:=A) (by have:=Fw hI.1;have:=h2;omega) hA9
  have hAn:A/2^n % 18446744073709551616=A/2^n:=BH hn2
  have hBA:B/2^n≤A/2^n:=Nat.div_le_div_right hI.1
  have hBn:B/2^n % 18446744073709551616=B/2^n:=BH (by omega)
  have hB0:0<B:=by refine AS fun e=>?_;have h:=h2;rw[e,DZ]at h;simp at h
  refine yE<|zC<|zT<|zV (.m rfl<|.n (zP (oS (by omega)) (A1 rfl))<|.n (xh rfl (show IntKind.i64.wrap ((bl A:Int) -64)=((n:Nat):Int) by rw[zO (by omega) (by omega)];omega))<|.z rfl) rfl fun g5=>CY (E3 0 1 5 rfl)<|Dd<|zF (Sg ?_)
  refine Ha 7 rfl<|(GQ (.mm rfl<|.n (zP (nT (by omega) (by omega)) (A2 rfl))<|.mm rfl<|.n (zP (nT (by omega) (by omega)) (A2 rfl))<|.n (zP (dq (by omega) (by rw[hAn,hBn];omega) (by omega)) (A2 rfl))<|.nil) rfl fun g6=>CY (E3 0 1 31 rfl) ?_)
  refine ud 31 rfl fun w9=>?_
  obtain⟨w,hw⟩:=w9
  rw[hAn,hBn]at hw
  have gwa:=hw.a
  have gwb:=hw.b
  show JN _ _ ((31,DL [CW (.int .u64 w.a),CW (.int .u64 w.b),CW (.int .u64 w.c),CW (.int .u64 w.d),CW (.bool (decide (w.s=1)))])::_) _ _
  refine D5 (To.emps 1)<|K7<|(GQ (.w 0 (xj 0 cR rfl)<|.w 0 (xm 0 rfl yL nO rfl)<|.nil) rfl fun g7=>CZ 0 (E3 0 1 6 rfl) rfl ?_)
  refine zW (.n (xe Q7 rfl)<|.r 0 (xf 0 Fa rfl zJ rfl)<|.n (xd rfl)<|.nil) rfl fun g8=>CZ 0 (E4 0 1 6 34 rfl) rfl<|zC<|zh rfl (fun h3=>?_) (fun h3=>?_)<;>try simp only[CT,Z]at h3
  ·have hwd:Dn ((A/2^n:Nat):Int) ((B/2^n:Nat):Int) w.a w.b w.c w.d w.s:=hw.dn.resolve_left (by have h:=h3;omega)
   obtain⟨A2,B2,hA2,hB2,hlt,hle,hgc⟩:=uZ hwd
   refine zV (.r 0 (xc 0 iq rfl zJ rfl)<|.mm rfl<|.n (zP (im hw (by omega) (by omega) hA2 hB2 hwd.s1) (A3 rfl))<|.m rfl<|.n (xk rfl)<|.n (xk rfl)<|.a rfl<|.z rfl) rfl fun g9=>CY (E2 0 1 rfl)<|zC<|D6<|zE<|zS<|yW (A2,B2) (by first|exact⟨AX hlt,hgc.trans hI.2.1,by show A2≤_;have:=hI.1;have:=hI.2.2;omega⟩|exact⟨AX hml,(N4 A B).trans hI.2.1,by show B≤_;have:=hI.1;have:=hI.2.2;omega⟩) (by first|(show B2<B;omega)|(show A % B<B;omega)) (Es (fun _=>E2 0 1 rfl) fun _=>R0)
  have hml:A % B<B:=Ap _ hB0
  refine yE<|zW (.mm rfl<|.n (zP (Of (by omega) (by omega) hB0) (A2 rfl))<|.m rfl<|.n (xk rfl)<|.n (xk rfl)<|.a rfl<|.z rfl) rfl fun g10=>CY (E2 1 8 rfl)<|zC<|(zG [] (.mm rfl<|.a rfl<|.z rfl) ff rfl fun g11=>CY (E2 0 1 rfl) ?_)
  refine zR<|yW (B,A % B) (by first|exact⟨AX hlt,hgc.trans hI.2.1,by show A2≤_;have:=hI.1;have:=hI.2.2;omega⟩|exact⟨AX hml,(N4 A B).trans hI.2.1,by show B≤_;have:=hI.1;have:=hI.2.2;omega⟩) (by first|(show B2<B;omega)|(show A % B<B;omega)) (Es (fun _=>E2 0 1 rfl) fun _=>R0)
 have hA9:(CQ A).length≤1000000000:=Ak (Fw hI.2.2) hmx
 have hB9:=Ak (Fw hI.1) hA9
 refine D6<|zE<|zE<|zS<|Dd<|zV (.m rfl<|.n (xv Df rfl)<|.n (xd rfl)<|.m rfl<|.n (gu rfl (fun hC=>(xB rfl)))<|.n (gu rfl (fun hC=>(yV Df (.w rfl hC))))<|.n (gu rfl (fun hC=>(oc rfl (.w rfl hC) (.k rfl) rfl)))<|.n (EO (.t rfl) (fun h2=>(.w rfl h2)))<|.nil) rfl fun g12=>CY (E3 0 1 57 rfl)<|zC<|OJ (ρc:=[]) (ρ1:=[(0,DP .u64 (CQ (if 0<(CQ B).length∧1<(CQ A).length then B else A))),(1,DP .u64 (CQ (if 0<(CQ B).length∧1<(CQ A).length then A % B else B)))]) (σ':=[]) (Es (fun _=> .nil) fun _=>R0) ?_ ?_
 ·skip
  refine zh rfl (fun h4=>?_) (fun h4=>?_)<;>try simp only[CT,Z]at h4
  ·have hB0:0<B:=by refine AS fun e=>?_;have h:=h4;rw[e,DZ]at h;simp at h
   refine zV (.mm rfl<|.n (zP (Of (by omega) (by omega) hB0) (A2 rfl))<|.m rfl<|.n (xk rfl)<|.n (xk rfl)<|.a rfl<|.z rfl) rfl fun g13=>CY (E2 1 10 rfl)<|zC<|(zG [] (.mm rfl<|.a rfl<|.z rfl) ff rfl fun g14=>CY (E2 0 1 rfl) ?_)
   exact GZ (Es (fun _=> .sub (t:=0) rfl (D3 (by first|rw[if_pos (by have h:=h4;omega)]|rw[if_neg (by have h:=h4;omega)]))<|.sub (t:=1) rfl (D3 (by first|rw[if_pos (by have h:=h4;omega)]|rw[if_neg (by have h:=h4;omega)]))<|.nil) fun _=>R0)
  refine yE<|GZ (Es (fun _=> .sub (t:=0) rfl (D3 (by first|rw[if_pos (by have h:=h4;omega)]|rw[if_neg (by have h:=h4;omega)]))<|.sub (t:=1) rfl (D3 (by first|rw[if_pos (by have h:=h4;omega)]|rw[if_neg (by have h:=h4;omega)]))<|.nil) fun _=>R0)
 skip
 refine zF ?_
 obtain⟨C,hC⟩: ∃ C,C=(if 0<(CQ B).length∧1<(CQ A).length then B else A):=⟨_,rfl⟩
 obtain⟨D,hD⟩: ∃ D,D=(if 0<(CQ B).length∧1<(CQ A).length then A % B else B):=⟨_,rfl⟩
 rw[←hC,←hD]
 obtain⟨hm1,hm2⟩:=pw (by omega) hC hD
 have hCD:=hm1.trans hI.2.1
 refine zV (.m rfl<|.n (xv Df rfl)<|.n (xd rfl)<|.nil) rfl fun g15=>CY (E3 0 1 68 rfl)<|zC<|zh rfl (fun h5=>?_) (fun h5=>?_)<;>try simp only[CT,Z]at h5
 ·have hD0:D=0:=F2.1 (by omega)
  refine zV (.m rfl<|.z rfl) rfl fun g16=>CY (E1 4 rfl)<|De<|zD<|DO rfl<|D3 (by rw[←hCD,hD0,Nat.gcd_zero_right])
 obtain⟨hc2,hd2⟩:=hm2 (fun e=>by have h:=h5;rw[e,DZ]at h;simp at h)
 refine yE<|zW (.m rfl<|.n (zP (kx) (A1 rfl))<|.m rfl<|.n (zP (kx) (A1 rfl))<|.a rfl<|.z rfl) rfl fun g17=>CY (E2 11 12 rfl)<|Dd<|zT<|D4 (α:=Nat×Nat) (fun y=>Nat.gcd y.1 y.2=Nat.gcd X Y∧y.1<18446744073709551616∧y.2<18446744073709551616) (fun y=>y.2) (fun y restR=>(11,CW (.int .u64 (((y.1:Nat):Int))))::(12,CW (.int .u64 (((y.2:Nat):Int))))::restR) (fun y restS=>restS) (ρc:=[]) (σc:=[]) (C % 18446744073709551616,D % 18446744073709551616) (by exact⟨(by show Nat.gcd (C % 18446744073709551616) (D % 18446744073709551616)=_;rw[BH hc2,BH hd2];exact hCD),Ap _ (by decide),Ap _ (by decide)⟩) (Es (fun _=>E2 11 12 rfl) fun _=>R0) (fun y hJ=>?_)
 obtain⟨a,b⟩:=y
 try simp only at hJ
 show J _ _ ((11,CW (.int .u64 (((a:Nat):Int))))::(12,CW (.int .u64 (((b:Nat):Int))))::_) (_) _ _
 have hJa:=hJ.2.1
 have hJb:=hJ.2.2
 refine zF<|zV (.m rfl<|.n (xd rfl)<|.nil) rfl fun g18=>CY (E3 11 12 75 rfl)<|zC<|zh rfl (fun h6=>?_) (fun h6=>?_)<;>try simp only[CT,Z]at h6
 ·have hb0:0<b:=by omega
  refine yE<|zC<|zT<|(zG [[],[],[],[1,2],[0,1],[0,1,2,3,4]] (.mm rfl<|.m rfl<|.n (Gr (.t rfl) (.t rfl) (by omega) (BY (by omega)))<|.a rfl<|.z rfl) (fun _=>Di) rfl fun g19=>CY (E2 11 12 rfl) ?_)
  refine zR<|yW (b,a % b) (by exact⟨(N4 a b).trans hJ.1,hJ.2.2,(by show a % b<_;have:=Ap a hb0;have:=hJ.2.2;omega)⟩) (by exact Ap a hb0) (Es (fun _=>F1 11 rfl<|.sub (t:=12) rfl (yO (by exact congrArg (fun z=>CW (.int .u64 z)) (Cg a b).symm))<|.nil) fun _=>R0)
 have hb0:b=0:=by omega
 subst hb0
 have hJ1:=hJ.1
 simp only[Nat.gcd_zero_right]at hJ1
 refine D6<|zE<|zE<|zS<|zW (.m rfl<|.n (zP (Qs (n:=a) (by omega)) (A1 rfl))<|.z rfl) rfl fun g20=>CY (E1 4 rfl)<|De<|DO rfl<|D3 (by rw[hJ1])
theorem HJ{u:Value}{q0 q1:SP}{b:Bool}{M:Nat}:En prog 121 [DW u 0,CW (.bool b),DP .u64 (CQ M)] (Dh u [q0,q1] 154) (DW u 0) (Dh u (GT (Ds b M)) 154):=by
 refine En.of func121 rfl (by kernel_rfl) rfl (CU) fun c0 ob hr0=>zV (.b rfl<|.nil) rfl fun g1=>CZ 0 (E3 0 1 2 rfl) rfl<|zW (.mm rfl<|.mm rfl<|.n (gu rfl (fun hC=>(xB rfl)))<|.n (gu rfl (fun hC=>(yV Df (.w rfl hC))))<|.n (gu rfl (fun hC=>(oc rfl (.w rfl hC) (.k rfl) rfl)))<|.n (EO (.t rfl) (fun h2=>(.w rfl h2)))<|.m rfl<|.n (xD rfl)<|.n (xe Fq rfl)<|.w 0 (xn 0 rfl D7 sF rfl)<|.n (xD rfl)<|.n (xe ES rfl)<|.w 0 (xn 0 rfl FP nN rfl)<|.nil) rfl fun g2=>CZ 0 (E1 0 rfl) rfl<|zW (.m rfl<|.z rfl) rfl fun g3=>CZ 0 (E1 6 rfl) rfl<|De<|D5 (To.res 0 (r':=Dh u (GT (Ds b M)) 154) rfl (yQ (congrArg (fun cs=>Dh u cs 154) (Nn b M))) rfl)<|Db 0 hr0 (CU) rfl (.cons (.tmp (.t rfl))<|.nil) (zM (yD zL) ?_)
 exact zL
theorem ft{u:Value}{q0 q1:SP}{n:Nat}(hn:n<18446744073709551616):En prog 77 [DW u 0,CW (.int .u64 (n:Int))] (Dh u [q0,q1] 154) (DW u 0) (Dh u (GT ((n:Int))) 154):=by
 refine En.of func77 rfl (by kernel_rfl) rfl (CU) fun c0 ob hr0=>zV (.b rfl<|.nil) rfl fun g1=>CZ 0 (E2 0 1 rfl) rfl<|zW (.mm rfl<|.n (zP (Qs hn) (A1 rfl))<|.w 0 (CV 0 (HJ) ⟨(.t rfl),(.k rfl),(.t rfl),trivial⟩ rfl)<|.z rfl) rfl fun g2=>CZ 0 (E1 4 rfl) rfl<|De<|D5 (To.res 0 (r':=Dh u (GT ((n:Int))) 154) rfl (yQ (by rfl)) rfl)<|Db 0 hr0 (CU) rfl (.cons (.tmp (.t rfl))<|.nil) (zM (yD zL) ?_)
 exact zL
theorem fq{u:Value}{q0 q1:SP}{n:Nat}(hn:n<9223372036854775808):En prog 125 [DW u 0,I6 (n:Int)] (Dh u [q0,q1] 154) (DW u 0) (Dh u (GT ((n:Int))) 154):=by
 refine En.of func125 rfl (by kernel_rfl) rfl (CU) fun c0 ob hr0=>zV (.b rfl<|.nil) rfl fun g1=>CZ 0 (E2 0 1 rfl) rfl<|Dd<|zV (.m rfl<|.n (xd rfl)<|.nil) rfl fun g2=>CZ 0 (E3 0 1 6 rfl) rfl<|zC<|zh rfl (fun h1=>?_) (fun h1=>?_)<;>try simp only[CT,Z]at h1
 ·exact absurd h1 (by omega)
 refine yE<|zW (.mm rfl<|.n (xg qh El rfl (DD (by omega) (by omega)))<|.n (zP (Qs (n:=n) (by omega)) (A1 rfl))<|.w 0 (CV 0 (HJ) ⟨(.t rfl),(.k rfl),(.t rfl),trivial⟩ rfl)<|.z rfl) rfl fun g3=>CZ 0 (E1 4 rfl) rfl<|De<|D5 (To.res 0 (r':=Dh u (GT ((n:Int))) 154) rfl (yQ (by rfl)) rfl)<|Db 0 hr0 (CU) rfl (.cons (.tmp (.t rfl))<|.nil) (zM (yD zL) ?_)
 exact zL
theorem L5{n:Nat}(hn:n<9223372036854775808):Ct prog 80 [I6 (n:Int)] (Rd (n:Int)):=by
 refine Ct.of func80 rfl (by kernel_rfl) rfl fun c0=>zV (.b rfl<|.nil) rfl fun g1=>CY (E1 0 rfl)<|zC<|DS<|zV (.w 0 (xj 0 XY rfl)<|.m rfl<|.w 0 (F6 0 rfl rfl (fun u=>fq hn) rfl (A1 rfl))<|.n (yX rfl rfl)<|.nil) rfl fun g2=>CZ 0 (E1 2 rfl) rfl<|De<|D5 (To.freeze 0 (fun _ h=>h) rfl Dv rfl)<|zQ (.cons (.tmp (.t rfl))<|.nil) (zM (yD (DN 0 2 rfl rfl)) ?_)
 exact zL
theorem fp{u:Value}{x:Int}(hx:Yk x):En prog 78 [DW u 0,DW u 0] (Dh u (GT (x)) 154) (DW u 0) (Dh u (GT (-x)) 154):=by
 refine En.of func78 rfl (by kernel_rfl) rfl (CU) fun c0 ob hr0=>?_
 have lx:=S3 hx
 refine zV (.b rfl<|.nil) rfl fun g1=>CZ 0 (E2 0 1 rfl) rfl<|zC<|zF (zG [[],[],[1],[1,2],[1,2,3],[1,2,3,4],[],[6],[6,7],[6,7,8],[6,7,8,9],[0,1,2,3,4,5,6,7,8,9,10],[0,1,2,3,4,5,6,7,8,9,10,11]] (.mm rfl<|.n (xD rfl)<|.n (xe Fq rfl)<|.r 0 (xf 0 Kg rfl zJ rfl)<|.n (EI (.t rfl))<|.m rfl<|.n (xD rfl)<|.n (xe ES rfl)<|.r 0 (xf 0 GW rfl zJ rfl)<|.n (zP (ID lx) (A1 rfl))<|.w 0 (CV 0 (HJ) (A3 rfl) rfl)<|.z rfl) (fun _=>Di) rfl fun g2=>CZ 0 (E1 4 rfl) rfl ?_)
 refine De<|D5 (To.res 0 (r':=Dh u (GT (-x)) 154) rfl (yQ (by rw[tu])) rfl)<|Db 0 hr0 (CU) rfl (.cons (.tmp (.t rfl))<|.nil) (zM (yD zL) ?_)
 exact zL
theorem dT{u:Value}{x:Int}{t:Bool}{Y:Nat}(hx:Yk x)(hY:(CQ Y).length≤250000000000):En prog 172 [DW u 0,DW u 0,CW (.bool t),DP .u64 (CQ Y)] (Dh u (GT (x)) 154) (DW u 0) (Dh u (GT (x+Ds t Y)) 154):=by
 refine En.of func172 rfl (by kernel_rfl) rfl (CU) fun c0 ob hr0=>?_
 have lx:=S3 hx
 refine zV (.b rfl<|.nil) rfl fun g1=>CZ 0 (E4 0 1 2 3 rfl) rfl<|Dd<|zT<|zV (.m rfl<|.n (xD rfl)<|.n (xe Fq rfl)<|.r 0 (xf 0 Kg rfl zJ rfl)<|.m rfl<|.n (bI underlying4 (.t rfl) (.t rfl))<|.z rfl) rfl fun g2=>CZ 0 (E5 0 1 2 3 9 rfl) rfl<|zC<|zh rfl (fun h1=>?_) (fun h1=>?_)<;>have h1':=h1<;>try simp only[CT,Z]at h1
 ·refine zV (.mm rfl<|.m rfl<|.n (xD rfl)<|.n (xe ES rfl)<|.r 0 (xf 0 GW rfl zJ rfl)<|.m rfl<|.n (zP (UZ (D9 _) (D9 _) lx hY) (A2 rfl))<|.w 0 (CV 0 (HJ) (A3 rfl) rfl)<|.z rfl) rfl fun g3=>CZ 0 (E1 8 rfl) rfl<|De<|yP<|zD<|D5 (To.res 0 (r':=Dh u (GT (x+Ds t Y)) 154) rfl (yQ (by rw[kC,vV h1'])) rfl)<|Db 0 hr0 (CU) rfl (.cons (.tmp (.t rfl))<|.nil) (zM (yD zL) ?_)
  exact zL
 refine zV (.m rfl<|.n (xD rfl)<|.n (xe ES rfl)<|.r 0 (xf 0 GW rfl zJ rfl)<|.m rfl<|.n (zP (Qh) (A2 rfl))<|.n (xd rfl)<|.z rfl) rfl fun g4=>CZ 0 (E5 0 1 2 3 25 rfl) rfl<|zC<|zh rfl (fun h2=>?_) (fun h2=>?_)<;>try simp only[CT,Z]at h2
 ·have hle:=aq h2
  refine zF (zG [[],[],[1],[1,2],[1,2,3],[],[5],[5,6],[5,6,7],[],[5,6,7,8,9],[0,1,2,3,4,5,6,7,8,9,10],[0,1,2,3,4,5,6,7,8,9,10,11]] (.mm rfl<|.n (xD rfl)<|.n (xe Fq rfl)<|.r 0 (xf 0 Kg rfl zJ rfl)<|.m rfl<|.n (xD rfl)<|.n (xe ES rfl)<|.r 0 (xf 0 GW rfl zJ rfl)<|.m rfl<|.n (zP (KB (D9 _) (D9 _) lx hY (Mh hle) (Mm hle)) (A2 rfl))<|.w 0 (CV 0 (HJ) (A3 rfl) rfl)<|.z rfl) (fun _=>Di) rfl fun g5=>CZ 0 (E1 8 rfl) rfl ?_)
  refine De<|yP<|zD<|D5 (To.res 0 (r':=Dh u (GT (x+Ds t Y)) 154) rfl (yQ (by rw[Wv hle,vW h1' hle])) rfl)<|Db 0 hr0 (CU) rfl (.cons (.tmp (.t rfl))<|.nil) (zM (yD zL) ?_)
  exact zL
 have hle:=ao (x:=x.natAbs) (y:=Y) (by omega)
 refine yE<|zR<|zW (.mm rfl<|.mm rfl<|.n (xD rfl)<|.n (xe ES rfl)<|.r 0 (xf 0 GW rfl zJ rfl)<|.n (zP (KB (D9 _) (D9 _) hY lx (Mh hle) (Mm hle)) (A2 rfl))<|.w 0 (CV 0 (HJ) (A3 rfl) rfl)<|.z rfl) rfl fun g6=>CZ 0 (E1 8 rfl) rfl<|De<|D5 (To.res 0 (r':=Dh u (GT (x+Ds t Y)) 154) rfl (yQ (by rw[Wv hle,vX h1' hle])) rfl)<|Db 0 hr0 (CU) rfl (.cons (.tmp (.t rfl))<|.nil) (zM (yD zL) ?_)
 exact zL
theorem WW{u:Value}{q0 q1:SP}{x:Int}{n:Nat}(hx:Yk x)(hn:n≤8000000000000):En prog 79 [DW u 0,Rd x,CW (.int .u64 (n:Int))] (Dh u [q0,q1] 154) (DW u 0) (Dh u (GT (x*2^n)) 154):=by
 refine En.of func79 rfl (by kernel_rfl) rfl (CU) fun c0 ob hr0=>?_
 have lx:=S3 hx
 refine zV (.b rfl<|.nil) rfl fun g1=>CZ 0 (E3 0 1 2 rfl) rfl<|zC<|zF (zG [[],[],[1],[1,2],[1,2,3],[],[5],[5,6],[5,6,7],[],[5,6,7,8,9],[0,1,2,3,4,5,6,7,8,9,10],[0,1,2,3,4,5,6,7,8,9,10,11]] (.mm rfl<|.n (xE rfl)<|.n (xF Fq rfl)<|.n (xy Kg rfl)<|.m rfl<|.n (xE rfl)<|.n (xF ES rfl)<|.n (xy GW rfl)<|.m rfl<|.n (zP (WX (D9 _) lx hn) (A2 rfl))<|.w 0 (CV 0 (HJ) (A3 rfl) rfl)<|.z rfl) (fun _=>Di) rfl fun g2=>CZ 0 (E1 6 rfl) rfl ?_)
 refine De<|D5 (To.res 0 (r':=Dh u (GT (x*2^n)) 154) rfl (yQ (by rw[kF,tP])) rfl)<|Db 0 hr0 (CU) rfl (.cons (.tmp (.t rfl))<|.nil) (zM (yD zL) ?_)
 exact zL
theorem fu{x:Int}:Ct prog 173 [Rd x] (I6 (HT x)):=by
 refine Ct.of func173 rfl (by kernel_rfl) rfl fun c0=>?_
 have hl0:=F2 (n:=x.natAbs)
 refine zV (.b rfl<|.nil) rfl fun g1=>CY (E1 0 rfl)<|Dd<|zT<|zV (.m rfl<|.n (xE rfl)<|.n (xF Fq rfl)<|.n (xy Kg rfl)<|.z rfl) rfl fun g2=>CY (E2 0 3 rfl)<|zC<|zh rfl (fun h1=>?_) (fun h1=>?_)<;>try simp only[CT,Z]at h1
 ·refine zV (.b rfl<|.nil) rfl fun g3=>CY (E1 2 rfl)<|De<|yP<|zD<|DO rfl<|Dc (by have e:x<0:=(by simpa using h1);unfold HT;rw[if_pos e])
 refine zV (.m rfl<|.n (xE rfl)<|.n (xF ES rfl)<|.n (xy GW rfl)<|.n (xv Df rfl)<|.n (xd rfl)<|.z rfl) rfl fun g4=>CY (E1 8 rfl)<|zC<|zh rfl (fun h2=>?_) (fun h2=>?_)<;>try simp only[CT,Z]at h2
 ·refine zV (.b rfl<|.nil) rfl fun g5=>CY (E1 2 rfl)<|De<|yP<|zD<|DO rfl<|Dc (by have h9:=hl0.1 (by omega);unfold HT;rw[if_neg (by omega),if_pos (by omega)])
 refine yE<|zR<|zW (.b rfl<|.nil) rfl fun g6=>CY (E1 2 rfl)<|De<|DO rfl<|Dc (by have e: ¬x<0:=(by simpa using h1);have h9: ¬x=0:=(fun e0=>by subst e0;have:=hl0.2 rfl;omega);unfold HT;rw[if_neg e,if_neg h9])
theorem T0{u:Value}{q0 q1 q2 q3:SP}{b:Bool}{M:Nat}:En prog 121 [DW u 0,CW (.bool b),DP .u64 (CQ M)] (Dh u [q0,q1,q2,q3] 161) (DW u 0) (Dh u [CW (.bool (decide (Ds b M<0))),DP .u64 (CQ (Ds b M).natAbs),q2,q3] 161):=by
 refine En.of func121 rfl (by kernel_rfl) rfl (CU) fun c0 ob hr0=>zV (.b rfl<|.nil) rfl fun g1=>CZ 0 (E3 0 1 2 rfl) rfl<|zW (.mm rfl<|.mm rfl<|.n (gu rfl (fun hC=>(xB rfl)))<|.n (gu rfl (fun hC=>(yV Df (.w rfl hC))))<|.n (gu rfl (fun hC=>(oc rfl (.w rfl hC) (.k rfl) rfl)))<|.n (EO (.t rfl) (fun h2=>(.w rfl h2)))<|.m rfl<|.n (xD rfl)<|.n (xe Fq rfl)<|.w 0 (xn 0 rfl D7 sF rfl)<|.n (xD rfl)<|.n (xe ES rfl)<|.w 0 (xn 0 rfl FP nN rfl)<|.nil) rfl fun g2=>CZ 0 (E1 0 rfl) rfl<|zW (.m rfl<|.z rfl) rfl fun g3=>CZ 0 (E1 6 rfl) rfl<|De<|D5 (To.res 0 (r':=Dh u [CW (.bool (decide (Ds b M<0))),DP .u64 (CQ (Ds b M).natAbs),q2,q3] 161) rfl (yQ (congrArg (fun cs=>Dh u (cs++ [q2,q3]) 161) (Nn b M))) rfl)<|Db 0 hr0 (CU) rfl (.cons (.tmp (.t rfl))<|.nil) (zM (yD zL) ?_)
 exact zL
theorem SZ{u:Value}{q0 q1 q2 q3:SP}{b:Bool}{M:Nat}:En prog 121 [DW u 2,CW (.bool b),DP .u64 (CQ M)] (Dh u [q0,q1,q2,q3] 161) (DW u 2) (Dh u [q0,q1,CW (.bool (decide (Ds b M<0))),DP .u64 (CQ (Ds b M).natAbs)] 161):=by
 refine En.of func121 rfl (by kernel_rfl) rfl (CU) fun c0 ob hr0=>zV (.b rfl<|.nil) rfl fun g1=>CZ 0 (E3 0 1 2 rfl) rfl<|zW (.mm rfl<|.mm rfl<|.n (gu rfl (fun hC=>(xB rfl)))<|.n (gu rfl (fun hC=>(yV Df (.w rfl hC))))<|.n (gu rfl (fun hC=>(oc rfl (.w rfl hC) (.k rfl) rfl)))<|.n (EO (.t rfl) (fun h2=>(.w rfl h2)))<|.m rfl<|.n (xD rfl)<|.n (xe Fq rfl)<|.w 0 (xn 0 rfl D7 sF rfl)<|.n (xD rfl)<|.n (xe ES rfl)<|.w 0 (xn 0 rfl FP nN rfl)<|.nil) rfl fun g2=>CZ 0 (E1 0 rfl) rfl<|zW (.m rfl<|.z rfl) rfl fun g3=>CZ 0 (E1 6 rfl) rfl<|De<|D5 (To.res 0 (r':=Dh u [q0,q1,CW (.bool (decide (Ds b M<0))),DP .u64 (CQ (Ds b M).natAbs)] 161) rfl (yQ (congrArg (fun cs=>Dh u ([q0,q1]++cs) 161) (Nn b M))) rfl)<|Db 0 hr0 (CU) rfl (.cons (.tmp (.t rfl))<|.nil) (zM (yD zL) ?_)
 exact zL
theorem JE{q:Rat}:Ct prog 170 [EE q] (DP .u64 (CQ q.den)):=by
 refine Ct.of func170 rfl (by kernel_rfl) rfl fun c0=>zV (.b rfl<|.nil) rfl fun g1=>CY (E1 0 rfl)<|Dd<|zV (.m rfl<|.n (xE rfl)<|.n (xF Q3 rfl)<|.n (xF ES rfl)<|.n (xy GW rfl)<|.n (xv Df rfl)<|.n (xd rfl)<|.nil) rfl fun g2=>CY (E2 0 9 rfl)<|zC<|zh rfl (fun h1=>?_) (fun h1=>?_)<;>try simp only[CT,Z]at h1
 ·exact absurd h1 (fun e=>pn (q:=q) (by omega))
 refine yE<|zW (.m rfl<|.n (xE rfl)<|.n (xF Q3 rfl)<|.n (xF ES rfl)<|.n (xy GW rfl)<|.z rfl) rfl fun g3=>CY (E1 2 rfl)<|De<|DO rfl<|zL
theorem IC{X Y:Nat}(hX:(CQ X).length≤100000000000)(hY:(CQ Y).length≤100000000000)(hY0:0<Y):Ct prog 171 [DP .u64 (CQ X),DP .u64 (CQ Y)] (DP .u64 (CQ (X/Y))):=by
 refine Ct.of func171 rfl (by kernel_rfl) rfl fun c0=>zV (.b rfl<|.nil) rfl fun g1=>CY (E2 0 1 rfl)<|Dd<|zV (.m rfl<|.n (xv Df rfl)<|.n (xd rfl)<|.m rfl<|.n (gu rfl (fun hC=>(xB rfl)))<|.n (gu rfl (fun hC=>(yS 0 Df (.w rfl hC) (.k rfl) (by omega) (by simp only[CT,decide_eq_true_eq,beq_iff_eq]at hC;omega))))<|.n (gu rfl (fun hC=>(yC Fa (.w rfl hC) rfl)))<|.n (gu rfl (fun hC=>(oc rfl (.w rfl hC) (.k rfl) rfl)))<|.n (EO (.t rfl) (fun h2=>(.w rfl h2)))<|.nil) rfl fun g2=>CY (E3 0 1 15 rfl)<|zC<|zh rfl (fun h1=>?_) (fun h1=>?_)<;>try simp only[CT,Z]at h1
 ·refine zV (.m rfl<|.z rfl) rfl fun g3=>CY (E1 4 rfl)<|De<|zD<|DO rfl<|D3 (by rw[eW (Y:=Y) (by have h:=h1;exact⟨by omega,h.2⟩),By])
 refine yE<|zW (.mm rfl<|.n (zP (Of (by assumption) (by assumption) (by assumption)) (A2 rfl))<|.m rfl<|.n (xk rfl)<|.n (xk rfl)<|.a rfl<|.z rfl) rfl fun g4=>CY (E1 5 rfl)<|zW (.m rfl<|.z rfl) rfl fun g5=>CY (E1 4 rfl)<|De<|DO rfl<|zL
theorem UG{u:Value}{q0 q1 q2 q3:SP}{b:Bool}{M D:Nat}:En prog 127 [DW u 0,CW (.bool b),DP .u64 (CQ M),DP .u64 (CQ D)] (Dh u [q0,q1,q2,q3] 161) (DW u 0) (Dh u [CW (.bool (decide (Ds b M<0))),DP .u64 (CQ (Ds b M).natAbs),CW (.bool (decide (Ds false D<0))),DP .u64 (CQ (Ds false D).natAbs)] 161):=by
 refine En.of func127 rfl (by kernel_rfl) rfl (CU) fun c0 ob hr0=>zV (.b rfl<|.nil) rfl fun g1=>CZ 0 (E4 0 1 2 3 rfl) rfl<|zW (.m rfl<|.n (xD rfl)<|.n (xe FY rfl)<|.mm rfl<|.w 0 (CV 0 (T0) (A3 rfl) rfl)<|.nil) rfl fun g2=>CZ 0 (E2 0 3 rfl) rfl<|zW (.m rfl<|.n (xD rfl)<|.n (xe Q3 rfl)<|.m rfl<|.w 0 (CV 0 (SZ) ⟨(.t rfl),(.k rfl),(.t rfl),trivial⟩ rfl)<|.nil) rfl fun g3=>CZ 0 (E1 0 rfl) rfl<|zW (.m rfl<|.z rfl) rfl fun g4=>CZ 0 (E1 8 rfl) rfl<|De<|Db 0 hr0 (CU) rfl (.cons (.tmp (.t rfl))<|.nil) (zM (yD zL) ?_)
 exact zL
theorem Th{u:Value}{q0 q1 q2 q3:SP}{s:Bool}{a b c d:Nat}(ha:(CQ a).length≤400000000)(hb:(CQ b).length≤400000000)(hc:(CQ c).length≤400000000)(hd:(CQ d).length≤400000000)(hb0:b≠0)(hd0:d≠0):En prog 175 [DW u 0,CW (.bool s),DP .u64 (CQ a),DP .u64 (CQ b),DP .u64 (CQ c),DP .u64 (CQ d)] (Dh u [q0,q1,q2,q3] 161) (DW u 0) (Dh u [CW (.bool (decide (Ds s ((a/Nat.gcd a d)*(c/Nat.gcd c b))<0))),DP .u64 (CQ (Ds s ((a/Nat.gcd a d)*(c/Nat.gcd c b))).natAbs),CW (.bool (decide (Ds false ((b/Nat.gcd c b)*(d/Nat.gcd a d))<0))),DP .u64 (CQ (Ds false ((b/Nat.gcd c b)*(d/Nat.gcd a d))).natAbs)] 161):=by
 refine En.of func175 rfl (by kernel_rfl) rfl (CU) fun c0 ob hr0=>?_
 have g0:=U9 (x:=a) hd0
 have k0:=U9 (x:=c) hb0
 have gl:=LH (x:=a) hd0 hd
 have kl:=LH (x:=c) hb0 hb
 have l1:=Eu (y:=Nat.gcd a d) ha
 have l2:=Eu (y:=Nat.gcd c b) hc
 have l3:=Eu (y:=Nat.gcd c b) hb
 have l4:=Eu (y:=Nat.gcd a d) hd
 refine zV (.b rfl<|.nil) rfl fun g1=>CZ 0 (E6 0 1 2 3 4 5 rfl) rfl<|zW (.mm rfl<|.n (zP (Ly (by omega) (by omega)) (A2 rfl))<|.mm rfl<|.n (zP (Ly (by omega) (by omega)) (A2 rfl))<|.a rfl<|.z rfl) rfl fun g2=>CZ 0 (E8 0 1 2 3 4 5 13 14 rfl) rfl<|zW (.mm rfl<|.mm rfl<|.n (zP (IC (by omega) (by omega) g0) (A2 rfl))<|.mm rfl<|.n (zP (IC (by omega) (by omega) k0) (A2 rfl))<|.n (zP (Jo (D9 _) (D9 _) (by omega) (by omega)) (A2 rfl))<|.mm rfl<|.n (zP (IC (by omega) (by omega) k0) (A2 rfl))<|.mm rfl<|.n (zP (IC (by omega) (by omega) g0) (A2 rfl))<|.n (zP (Jo (D9 _) (D9 _) (by omega) (by omega)) (A2 rfl))<|.w 0 (CV 0 (UG) (A4 rfl) rfl)<|.z rfl) rfl fun g3=>CZ 0 (E1 12 rfl) rfl<|De<|D5 (To.res 0 (r':=Dh u [CW (.bool (decide (Ds s ((a/Nat.gcd a d)*(c/Nat.gcd c b))<0))),DP .u64 (CQ (Ds s ((a/Nat.gcd a d)*(c/Nat.gcd c b))).natAbs),CW (.bool (decide (Ds false ((b/Nat.gcd c b)*(d/Nat.gcd a d))<0))),DP .u64 (CQ (Ds false ((b/Nat.gcd c b)*(d/Nat.gcd a d))).natAbs)] 161) rfl (yQ (by rw[JD,JD])) rfl)<|Db 0 hr0 (CU) rfl (.cons (.tmp (.t rfl))<|.nil) (zM (yD zL) ?_)
 exact zL
theorem m9{u:Value}{q0 q1 q2 q3:SP}{x y:Rat}(hx:FV 200000000 x)(hy:FV 200000000 y):En prog 174 [DW u 0,EE x,EE y] (Dh u [q0,q1,q2,q3] 161) (DW u 0) (Dh u (IP (x*y)) 161):=by
 refine En.of func174 rfl (by kernel_rfl) rfl (CU) fun c0 ob hr0=>?_
 have hxa:=hx.a
 have hxb:=hx.b
 have hya:=hy.a
 have hyb:=hy.b
 refine zV (.b rfl<|.nil) rfl fun g1=>CZ 0 (E3 0 1 2 rfl) rfl<|zC<|zF (zG [[],[],[1],[1,2],[1,2,3],[1,2,3,4],[],[6],[6,7],[6,7,8],[6,7,8,9],[1,2,3,4,5,6,7,8,9,10],[],[12],[12,13],[12,13,14],[12,13,14,15],[],[17],[],[19],[19,20],[19,20,21],[19,20,21,22],[],[17,18,24],[0,1,2,3,4,5,6,7,8,9,10,11,12,13,14,15,16,17,18,19,20,21,22,23,24,25],[0,1,2,3,4,5,6,7,8,9,10,11,12,13,14,15,16,17,18,19,20,21,22,23,24,25,26]] (.mm rfl<|.n (xE rfl)<|.n (xF FY rfl)<|.n (xF Fq rfl)<|.n (xy Kg rfl)<|.m rfl<|.n (xE rfl)<|.n (xF FY rfl)<|.n (xF Fq rfl)<|.n (xy Kg rfl)<|.n (LO underlying4 (.t rfl) (.t rfl))<|.m rfl<|.n (xE rfl)<|.n (xF FY rfl)<|.n (xF ES rfl)<|.n (xy GW rfl)<|.m rfl<|.n (zP (JE) (A1 rfl))<|.m rfl<|.n (xE rfl)<|.n (xF FY rfl)<|.n (xF ES rfl)<|.n (xy GW rfl)<|.m rfl<|.n (zP (JE) (A1 rfl))<|.w 0 (CV 0 (Th (by omega) (by omega) (by omega) (by omega) x.den_nz y.den_nz) (A6 rfl) rfl)<|.z rfl) (fun _=>Di) rfl fun g2=>CZ 0 (E1 6 rfl) rfl ?_)
 refine De<|D5 (To.res 0 (r':=Dh u (IP (x*y)) 161) rfl (yQ (congrArg (fun cs=>Dh u cs 161) (Iq (Uj x y).1 (Uj x y).2))) rfl)<|Db 0 hr0 (CU) rfl (.cons (.tmp (.t rfl))<|.nil) (zM (yD zL) ?_)
 exact zL
theorem mc{u:Value}{q0 q1 q2 q3:SP}{x y:Rat}(hx:FV 200000000 x)(hy:FV 200000000 y)(hy0:y≠0):En prog 136 [DW u 0,EE x,EE y] (Dh u [q0,q1,q2,q3] 161) (DW u 0) (Dh u (IP (x/y)) 161):=by
 refine En.of func136 rfl (by kernel_rfl) rfl (CU) fun c0 ob hr0=>?_
 have hxa:=hx.a
 have hxb:=hx.b
 have hya:=hy.a
 have hyb:=hy.b
 have hyn:y.num.natAbs≠0:=fun e=>hy0 (Rat.num_eq_zero.1 (by omega))
 refine zV (.b rfl<|.nil) rfl fun g1=>CZ 0 (E3 0 1 2 rfl) rfl<|zC<|zF (zG [[],[],[1],[1,2],[1,2,3],[1,2,3,4],[],[6],[6,7],[6,7,8],[6,7,8,9],[1,2,3,4,5,6,7,8,9,10],[],[12],[12,13],[12,13,14],[12,13,14,15],[],[17],[],[17,18,19],[],[21],[21,22],[21,22,23],[21,22,23,24],[0,1,2,3,4,5,6,7,8,9,10,11,12,13,14,15,16,17,18,19,20,21,22,23,24,25],[0,1,2,3,4,5,6,7,8,9,10,11,12,13,14,15,16,17,18,19,20,21,22,23,24,25,26]] (.mm rfl<|.n (xE rfl)<|.n (xF FY rfl)<|.n (xF Fq rfl)<|.n (xy Kg rfl)<|.m rfl<|.n (xE rfl)<|.n (xF FY rfl)<|.n (xF Fq rfl)<|.n (xy Kg rfl)<|.n (LO underlying4 (.t rfl) (.t rfl))<|.m rfl<|.n (xE rfl)<|.n (xF FY rfl)<|.n (xF ES rfl)<|.n (xy GW rfl)<|.m rfl<|.n (zP (JE) (A1 rfl))<|.m rfl<|.n (zP (JE) (A1 rfl))<|.m rfl<|.n (xE rfl)<|.n (xF FY rfl)<|.n (xF ES rfl)<|.n (xy GW rfl)<|.w 0 (CV 0 (Th (by omega) (by omega) (by omega) (by omega) x.den_nz hyn) (A6 rfl) rfl)<|.z rfl) (fun _=>Di) rfl fun g2=>CZ 0 (E1 6 rfl) rfl ?_)
 refine De<|D5 (To.res 0 (r':=Dh u (IP (x/y)) 161) rfl (yQ (congrArg (fun cs=>Dh u cs 161) (Iq (UC hy0).1 (UC hy0).2))) rfl)<|Db 0 hr0 (CU) rfl (.cons (.tmp (.t rfl))<|.nil) (zM (yD zL) ?_)
 exact zL
theorem rE{u:Value}{q0 q1 q2 q3:SP}{b:Bool}{M:Nat}:En prog 127 [DW u 0,CW (.bool b),DP .u64 (CQ M),Mv 1 1 [CW (.int .u64 1)]] (Dh u [q0,q1,q2,q3] 161) (DW u 0) (Dh u [CW (.bool (decide (Ds b M<0))),DP .u64 (CQ (Ds b M).natAbs),CW (.bool (decide (Ds false 1<0))),DP .u64 (CQ (Ds false 1).natAbs)] 161):=(by have h:= @UG u q0 q1 q2 q3 b M 1;rw[show DP .u64 (CQ 1)=Mv 1 1 [CW (.int .u64 1)] by rw[Wq];rfl]at h;exact h)
theorem pd{x:Nat}:Ct prog 167 [DP .u64 (CQ x),Mv 1 1 [CW (.int .u64 1)]] (I6 (GS x 1)):=(by have h:= @Qh x 1;rw[show DP .u64 (CQ 1)=Mv 1 1 [CW (.int .u64 1)] by rw[Wq];rfl]at h;exact h)
theorem ma{u:Value}{q0 q1 q2 q3:SP}{x:Rat}(hx:FV 200000000 x):En prog 130 [DW u 0,EE x] (Dh u [q0,q1,q2,q3] 161) (DW u 0) (Dh u (IP (-x)) 161):=by
 refine En.of func130 rfl (by kernel_rfl) rfl (CU) fun c0 ob hr0=>?_
 have hxa:=hx.a
 have hxb:=hx.b
 refine zV (.b rfl<|.nil) rfl fun g1=>CZ 0 (E2 0 1 rfl) rfl<|zC<|zF (zG [[],[],[1],[1,2],[1,2,3],[1,2,3,4],[1,2,3,4,5],[],[7],[7,8],[7,8,9],[7,8,9,10],[7,8,9,10,11],[],[7,8,9,10,11,12,13],[7,8,9,10,11,12,13,14],[0,1,2,3,4,5,6,7,8,9,10,11,12,13,14,15],[0,1,2,3,4,5,6,7,8,9,10,11,12,13,14,15,16]] (.mm rfl<|.n (xE rfl)<|.n (xF FY rfl)<|.n (xF Fq rfl)<|.n (xy Kg rfl)<|.n (EI (.t rfl))<|.m rfl<|.n (xE rfl)<|.n (xF FY rfl)<|.n (xF ES rfl)<|.n (xy GW rfl)<|.n (zP (ID (by omega)) (A1 rfl))<|.m rfl<|.n (zP (JE) (A1 rfl))<|.n (zP (ID (by omega)) (A1 rfl))<|.w 0 (CV 0 (UG) (A4 rfl) rfl)<|.z rfl) (fun _=>Di) rfl fun g2=>CZ 0 (E1 4 rfl) rfl ?_)
 refine De<|D5 (To.res 0 (r':=Dh u (IP (-x)) 161) rfl (yQ (congrArg (fun cs=>Dh u cs 161) (Iq (bC x).1 (bC x).2))) rfl)<|Db 0 hr0 (CU) rfl (.cons (.tmp (.t rfl))<|.nil) (zM (yD zL) ?_)
 exact zL
theorem fA{x:Rat}:Ct prog 131 [EE x] (I6 (HT x.num)):=by
 refine Ct.of func131 rfl (by kernel_rfl) rfl fun c0=>zV (.b rfl<|.nil) rfl fun g1=>CY (E1 0 rfl)<|zW (.m rfl<|.n (xE rfl)<|.n (xF FY rfl)<|.n (zP (fu) (A1 rfl))<|.z rfl) rfl fun g2=>CY (E1 2 rfl)<|De<|DO rfl<|zL
theorem fy{u:Value}{q0 q1 q2 q3:SP}{b:Bool}{A D:Nat}(hA:(CQ A).length≤400000000)(hD:(CQ D).length≤400000000)(hD0:D≠0):En prog 126 [DW u 0,CW (.bool b),DP .u64 (CQ A),DP .u64 (CQ D)] (Dh u [q0,q1,q2,q3] 161) (DW u 0) (Dh u (IP (mkRat (Ds b A) D)) 161):=by
 refine En.of func126 rfl (by kernel_rfl) rfl (CU) fun c0 ob hr0=>?_
 have g0:=U9 (x:=A) hD0
 have gl:=LH (x:=A) hD0 hD
 have l1:=Eu (y:=Nat.gcd A D) hA
 have l2:=Eu (y:=Nat.gcd A D) hD
 obtain⟨hm1,hm2⟩:=OZ b (A:=A) hD0
 refine zV (.b rfl<|.nil) rfl fun g1=>CZ 0 (E4 0 1 2 3 rfl) rfl<|Dd<|zV (.mm rfl<|.n (zP (Ly (by omega) (by omega)) (A2 rfl))<|.z rfl) rfl fun g2=>CZ 0 (E5 0 1 2 3 9 rfl) rfl<|zW (.m rfl<|.n (xC Df M5 rfl (.cons rfl (.k rfl) D7 rfl (yU rfl (A8 rfl)) .nil))<|.n (zP (pd) (A2 rfl))<|.n (xd rfl)<|.nil) rfl fun g3=>CZ 0 (E6 0 1 2 3 9 16 rfl) rfl<|zC<|OJ (ρc:=[(0,_),(1,_)]) (ρ1:=[(2,DP .u64 (CQ (A/Nat.gcd A D))),(3,DP .u64 (CQ (D/Nat.gcd A D)))]) (σ':=[_]) (Es (fun _=>E2 0 1 rfl) fun _=>R1 0 rfl) ?_ ?_
 ·skip
  refine zh rfl (fun h1=>?_) (fun h1=>?_)<;>try simp only[CT,Z]at h1
  ·refine zV (.mm rfl<|.n (zP (Of (by omega) (by omega) g0) (A2 rfl))<|.m rfl<|.n (xk rfl)<|.n (xk rfl)<|.z rfl) rfl fun g4=>CZ 0 (E5 0 1 2 3 9 rfl) rfl<|zC<|(zG [] (.mm rfl<|.n (zP (Of (by omega) (by omega) g0) (A2 rfl))<|.m rfl<|.n (xk rfl)<|.n (xk rfl)<|.z rfl) ff rfl fun g5=>CZ 0 (E4 0 1 2 3 rfl) rfl ?_)
   exact GZ (Es (fun _=> .sub (t:=2) rfl (D3 (by first|rw[hG1,By]|rfl))<|.sub (t:=3) rfl (D3 (by first|rw[hG1,By]|rfl))<|E2 0 1 rfl) fun _=>R1 0 rfl)
  have hG1:Nat.gcd A D=1:=Aj fun e=>ar.2 e (by have:=h1;omega)
  refine yE<|GZ (Es (fun _=> .sub (t:=2) rfl (D3 (by first|rw[hG1,By]|rfl))<|.sub (t:=3) rfl (D3 (by first|rw[hG1,By]|rfl))<|E2 0 1 rfl) fun _=>R1 0 rfl)
 skip
 refine zF (zG [[],[0],[0,1],[],[],[4],[0,1,2,3,4,5]] (.m rfl<|.n (xD rfl)<|.n (xe FY rfl)<|.mm rfl<|.n (zP (ID (by omega)) (A1 rfl))<|.w 0 (CV 0 (T0) (A3 rfl) rfl)<|.nil) (fun _=>Di) rfl fun g6=>CZ 0 (E2 0 3 rfl) rfl ?_)
 refine zC<|zF (zG [[],[0],[0,1],[],[3],[0,1,2,3,4]] (.m rfl<|.n (xD rfl)<|.n (xe Q3 rfl)<|.m rfl<|.n (zP (ID (by omega)) (A1 rfl))<|.w 0 (CV 0 (SZ) ⟨(.t rfl),(.k rfl),(.t rfl),trivial⟩ rfl)<|.nil) (fun _=>Di) rfl fun g7=>CZ 0 (E1 0 rfl) rfl ?_)
 refine zW (.m rfl<|.z rfl) rfl fun g8=>CZ 0 (E1 8 rfl) rfl<|De<|D5 (To.res 0 (r':=Dh u (IP (mkRat (Ds b A) D)) 161) rfl (yQ (congrArg (fun cs=>Dh u cs 161) (Iq hm1.symm hm2.symm))) rfl)<|Db 0 hr0 (CU) rfl (.cons (.tmp (.t rfl))<|.nil) (zM (yD zL) ?_)
 exact zL
theorem P7{u:Value}{q0 q1 q2 q3:SP}{x y:Int}(hx:(CQ x.natAbs).length≤400000000)(hy:(CQ y.natAbs).length≤400000000)(hy0:y≠0):En prog 81 [DW u 0,Rd x,Rd y] (Dh u [q0,q1,q2,q3] 161) (DW u 0) (Dh u (IP (mkRat (Ds (decide (x<0) !=decide (y<0)) x.natAbs) y.natAbs)) 161):=by
 refine En.of func81 rfl (by kernel_rfl) rfl (CU) fun c0 ob hr0=>zV (.b rfl<|.nil) rfl fun g1=>CZ 0 (E3 0 1 2 rfl) rfl<|zC<|zF (zG [[],[],[1],[1,2],[1,2,3],[],[5],[5,6],[5,6,7],[1,2,3,4,5,6,7,8],[],[10],[10,11],[10,11,12],[],[14],[14,15],[14,15,16],[0,1,2,3,4,5,6,7,8,9,10,11,12,13,14,15,16,17],[0,1,2,3,4,5,6,7,8,9,10,11,12,13,14,15,16,17,18]] (.mm rfl<|.n (xE rfl)<|.n (xF Fq rfl)<|.n (xy Kg rfl)<|.m rfl<|.n (xE rfl)<|.n (xF Fq rfl)<|.n (xy Kg rfl)<|.n (LO underlying4 (.t rfl) (.t rfl))<|.m rfl<|.n (xE rfl)<|.n (xF ES rfl)<|.n (xy GW rfl)<|.m rfl<|.n (xE rfl)<|.n (xF ES rfl)<|.n (xy GW rfl)<|.w 0 (CV 0 (fy hx hy (by omega)) (A4 rfl) rfl)<|.z rfl) (fun _=>Di) rfl fun g2=>CZ 0 (E1 6 rfl) rfl ?_)
 refine De<|Db 0 hr0 (CU) rfl (.cons (.tmp (.t rfl))<|.nil) (zM (yD zL) ?_)
 exact zL
theorem X3{u:Value}{q0 q1 q2 q3:SP}{x:Int}(hx:(CQ x.natAbs).length≤400000000):En prog 82 [DW u 0,Rd x] (Dh u [q0,q1,q2,q3] 161) (DW u 0) (Dh u (IP ((x:Rat))) 161):=by
 refine En.of func82 rfl (by kernel_rfl) rfl (CU) fun c0 ob hr0=>zV (.b rfl<|.nil) rfl fun g1=>CZ 0 (E2 0 1 rfl) rfl<|zC<|zF (zG [[],[],[1],[1,2],[1,2,3],[],[5],[5,6],[5,6,7],[5,6,7,8],[],[0,1,2,3,4,5,6,7,8,9,10],[0,1,2,3,4,5,6,7,8,9,10,11]] (.mm rfl<|.n (xE rfl)<|.n (xF Fq rfl)<|.n (xy Kg rfl)<|.m rfl<|.n (xE rfl)<|.n (xF ES rfl)<|.n (xy GW rfl)<|.n (zP (ID (by omega)) (A1 rfl))<|.n (xC Df M5 rfl (.cons rfl (.k rfl) D7 rfl (yU rfl (A8 rfl)) .nil))<|.w 0 (CV 0 (rE) (A4 rfl) rfl)<|.z rfl) (fun _=>Di) rfl fun g2=>CZ 0 (E1 4 rfl) rfl ?_)
 refine De<|D5 (To.res 0 (r':=Dh u (IP ((x:Rat))) 161) rfl (yQ (congrArg (fun cs=>Dh u cs 161) (Iq (q:=(x:Rat)) ((Pe x).trans (Rat.num_intCast x).symm) (Rat.den_intCast x).symm))) rfl)<|Db 0 hr0 (CU) rfl (.cons (.tmp (.t rfl))<|.nil) (zM (yD zL) ?_)
 exact zL
theorem X1{u:Value}{q0 q1 q2 q3:SP}{x y:Rat}(hx:FV 200000000 x)(hy:FV 200000000 y):En prog 129 [DW u 0,EE x,EE y] (Dh u [q0,q1,q2,q3] 161) (DW u 0) (Dh u (IP (x+y)) 161):=by
 refine En.of func129 rfl (by kernel_rfl) rfl (CU) fun c0 ob hr0=>?_
 have hxa:=hx.a
 have hxb:=hx.b
 have hya:=hy.a
 have hyb:=hy.b
 have g0:=U9 (x:=x.den) y.den_nz
 have gl:=LH (x:=x.den) y.den_nz hyb
 have l1:=Eu (y:=Nat.gcd x.den y.den) hxb
 have l2:=Eu (y:=Nat.gcd x.den y.den) hyb
 have lN:=il hx hy
 have m1:=LL hxa l2 (k:=400000000) (by omega)
 have m2:=HV hya l1 (k:=400000000) (by omega)
 have hh0:0<HA x y:=Cp _ g0
 have hhl:(CQ (HA x y)).length≤200000000:=LH (x:=(IW x y).natAbs) (by omega) gl
 have l3:=Eu (y:=HA x y) lN
 have l4:=Eu (y:=HA x y) hyb
 have hs1:=nv m1 (by omega)
 refine zV (.b rfl<|.nil) rfl fun g1=>CZ 0 (E3 0 1 2 rfl) rfl<|zW (.m rfl<|.n (zP (JE) (A1 rfl))<|.m rfl<|.n (zP (JE) (A1 rfl))<|.a rfl<|.z rfl) rfl fun g2=>CZ 0 (E5 0 1 2 7 8 rfl) rfl<|zW (.mm rfl<|.n (zP (Ly (by omega) (by omega)) (A2 rfl))<|.z rfl) rfl fun g3=>CZ 0 (E6 0 1 2 7 8 9 rfl) rfl<|zW (.mm rfl<|.n (zP (IC (by omega) (by omega) g0) (A2 rfl))<|.mm rfl<|.n (zP (IC (by omega) (by omega) g0) (A2 rfl))<|.a rfl<|.z rfl) rfl fun g4=>CZ 0 (E7 0 1 2 8 9 10 11 rfl) rfl<|zC<|DS<|zF (zG [[],[],[1],[1,2],[1,2,3],[1,2,3,4],[],[6],[6,7],[6,7,8],[6,7,8,9],[],[6,7,8,9,10,11],[0,1,2,3,4,5,6,7,8,9,10,11,12],[0,1,2,3,4,5,6,7,8,9,10,11,12,13]] (.w 1 (xj 1 XY rfl)<|.m rfl<|.n (xE rfl)<|.n (xF FY rfl)<|.n (xF Fq rfl)<|.n (xy Kg rfl)<|.m rfl<|.n (xE rfl)<|.n (xF FY rfl)<|.n (xF ES rfl)<|.n (xy GW rfl)<|.m rfl<|.n (zP (Jo (D9 _) (D9 _) (by omega) (by omega)) (A2 rfl))<|.w 1 (F6 1 rfl rfl (fun u=>HJ) rfl (A2 rfl))<|.n (yX rfl rfl)<|.nil) (fun _=>Di) rfl fun g5=>nx (E6 0 2 8 9 10 12 rfl) (R2 0 1 rfl) ?_)
 refine zC<|yN (To.res 1 (r':=Dh (g5 40) (GT (x.num*((y.den/Nat.gcd x.den y.den:Nat):Int))) 154) rfl (yQ (by rw[JD,Xu])) rfl)<|zF (zG [[],[],[],[2],[2,3],[2,3,4],[2,3,4,5],[],[7],[7,8],[7,8,9],[7,8,9,10],[],[7,8,9,10,11,12],[0,1,2,3,4,5,6,7,8,9,10,11,12,13]] (.mm rfl<|.m rfl<|.n (xE rfl)<|.n (xF FY rfl)<|.n (xF Fq rfl)<|.n (xy Kg rfl)<|.m rfl<|.n (xE rfl)<|.n (xF FY rfl)<|.n (xF ES rfl)<|.n (xy GW rfl)<|.m rfl<|.n (zP (Jo (D9 _) (D9 _) (by omega) (by omega)) (A2 rfl))<|.w 1 (CV 1 (dT hs1 (by rw[JD];omega)) (A4 rfl) rfl)<|.nil) (fun _=>Di) rfl fun g6=>nx (E5 0 8 9 10 12 rfl) (R2 0 1 rfl) ?_)
 refine zC<|yN (To.res 1 (r':=Dh (g5 40) (GT (IW x y)) 154) rfl (yQ (by rw[JD,Xu];rfl)) rfl)<|zV (.m rfl<|.n (xD rfl)<|.n (xe ES rfl)<|.r 1 (xf 1 GW rfl zJ rfl)<|.m rfl<|.n (zP (Ly (by omega) (by omega)) (A2 rfl))<|.z rfl) rfl fun g7=>nx (E5 0 8 10 12 13 rfl) (R2 0 1 rfl)<|zC<|yN (To.slot 13 rfl (q:=DP .u64 (CQ (HA x y))) (D3 rfl))<|zF (zG [[],[],[1],[1,2],[1,2,3],[],[5],[5,6],[5,6,7],[],[5,6,7,8,9],[5,6,7,8,9,10],[],[],[],[5,6,7,8,9,10,11,13,14],[5,6,7,8,9,10,11,12,13,14,15],[0,1,2,3,4,5,6,7,8,9,10,11,12,13,14,15,16],[0,1,2,3,4,5,6,7,8,9,10,11,12,13,14,15,16,17]] (.mm rfl<|.n (xD rfl)<|.n (xe Fq rfl)<|.r 1 (xf 1 Kg rfl zJ rfl)<|.m rfl<|.n (xD rfl)<|.n (xe ES rfl)<|.r 1 (xf 1 GW rfl zJ rfl)<|.m rfl<|.n (zP (IC (by omega) (by omega) hh0) (A2 rfl))<|.n (zP (ID (Ak l3 (by omega))) (A1 rfl))<|.mm rfl<|.m rfl<|.n (zP (IC (by omega) (by omega) hh0) (A2 rfl))<|.n (zP (Jo (D9 _) (D9 _) (by omega) (by omega)) (A2 rfl))<|.w 0 (CV 0 (UG) (A4 rfl) rfl)<|.z rfl) (fun _=>Di) rfl fun g8=>CZ 0 (E1 6 rfl) rfl ?_)
 refine De<|D5 (To.res 0 (r':=Dh u (IP (x+y)) 161) rfl (yQ (by rw[JD];exact congrArg (fun cs=>Dh u cs 161) (Iq (TI x y).1 (TI x y).2))) rfl)<|Db 0 hr0 (CU) rfl (.cons (.tmp (.t rfl))<|.nil) (zM (yD zL) ?_)
 exact zL
theorem me{u:Value}{q0 q1 q2 q3:SP}{x y:Rat}(hx:FV 200000000 x)(hy:FV 200000000 y):En prog 84 [DW u 0,EE x,EE y] (Dh u [q0,q1,q2,q3] 161) (DW u 0) (Dh u (IP (x-y)) 161):=by
 refine En.of func84 rfl (by kernel_rfl) rfl (CU) fun c0 ob hr0=>?_
 have hyn:=hy.neg
 refine zV (.b rfl<|.nil) rfl fun g1=>CZ 0 (E3 0 1 2 rfl) rfl<|zC<|DS<|zF (Sg ?_)
 refine Ha 5 rfl<|(GQ (.mm rfl<|.w 1 (xj 1 MP rfl)<|.m rfl<|.w 1 (F6 1 rfl rfl (fun u=>ma hy) rfl (A1 rfl))<|.nil) rfl fun g2=>nx (E3 7 8 11 rfl) (R2 0 1 rfl) ?_)
 refine D5 (To.freezeM 1 0 hr0 (CU) rfl rfl rfl Dv rfl)<|K7<|(GQ (.w 0 (CV 0 (X1 hx hyn) ⟨(.t rfl),(.t rfl),(Lk.sub (DN 0 4 rfl rfl) (.t rfl)),trivial⟩ rfl)<|.z rfl) rfl fun g3=>CZ 0 (E1 6 rfl) rfl ?_)
 refine De<|D5 (To.res 0 (r':=Dh u (IP (x-y)) 161) rfl (yQ (by rw[Rat.sub_eq_add_neg])) rfl)<|Db 0 hr0 (CU) rfl (.cons (.tmp (.t rfl))<|.nil) (zM (yD zL) ?_)
 exact zL
theorem eT{n m:Nat}(hn:n<9223372036854775808)(hm:m<9223372036854775808)(hm0:m≠0):Ct prog 135 [I6 (n:Int),I6 (m:Int)] (EE (mkRat (n:Int) m)):=by
 refine Ct.of func135 rfl (by kernel_rfl) rfl fun c0=>?_
 have ln:=Rp (n:=n) (by omega)
 have lm:=Rp (n:=m) (by omega)
 refine zV (.b rfl<|.nil) rfl fun g1=>CY (E2 0 1 rfl)<|zC<|DS<|zV (.w 0 (xj 0 MP rfl)<|.m rfl<|.n (zP (L5 hn) (A1 rfl))<|.m rfl<|.n (zP (L5 hm) (A1 rfl))<|.w 0 (F6 0 rfl rfl (fun u=>P7 (by rw[Av];omega) (by rw[Av];omega) (by omega)) rfl (A2 rfl))<|.n (yX rfl rfl)<|.nil) rfl fun g2=>CZ 0 (E1 4 rfl) rfl<|De<|D5 (To.freeze 0 (fun _ h=>h) rfl Dv rfl)<|zQ (.cons (.tmp (.t rfl))<|.nil) (zM (yD (DN 0 4 rfl rfl)) ?_)
 exact D3 (by rw[eS];rfl)
theorem Z1{n:Nat}(hn:n<9223372036854775808):Ct prog 135 [I6 (n:Int),I6 1] (EE (mkRat (n:Int) 1)):=eT (m:=1) hn (by decide) (by decide)
theorem od{n:Nat}(hn:n<9223372036854775808):Ct prog 88 [I6 (n:Int)] (Nx (mkRat (n:Int) 1)):=by
 refine Ct.of func88 rfl (by kernel_rfl) rfl fun c0=>DS<|zV (.w 0 (xj 0 GK rfl)<|.nil) rfl fun g1=>CZ 0 (E2 0 2 rfl) rfl<|zW (.m rfl<|.n (zP (Z1 hn) ⟨(.t rfl),(.k rfl),trivial⟩)<|.n (D1 GK rfl Ob (.g iR rfl .nil))<|.w 0 (xn 0 rfl yL JC rfl)<|.nil) rfl fun g2=>CZ 0 (E1 2 rfl) rfl<|De<|zQ (.cons (.ag 0 (.t rfl) GF rfl rfl rfl)<|.nil) (zM (yD zL) ?_)
 exact zL
theorem l8{x y:Rat}(hx:FV 200000000 x)(hy:FV 200000000 y):Ct prog 133 [Nx x,Nx y] (Nx (x+y)):=by
 refine Ct.of func133 rfl (by kernel_rfl) rfl fun c0=>yN (To.emps 3)<|zV (.w 0 (xa 0 rfl yL rfl)<|.w 1 (xa 1 rfl yL rfl)<|.w 2 (xj 2 GK rfl)<|.nil) rfl fun g1=>nx (E3 2 3 4 rfl) (R3 0 1 2 rfl)<|zC<|DS<|zV (.w 3 (xj 3 MP rfl)<|.n (xe J8 rfl)<|.r 0 (xf 0 Ol rfl zJ rfl)<|.n (xe J8 rfl)<|.r 1 (xf 1 Ol rfl zJ rfl)<|.w 3 (F6 3 rfl rfl (fun u=>X1 (by assumption) (by assumption)) rfl (A2 rfl))<|.n (HP 10 11 rfl rfl rfl (fun f=>(D1 GK rfl Ob (.g HH rfl .nil))) (fun f g h=>by rw[h 10 (show 10∈ [10]from by decide)]) rfl)<|.w 2 (LQ 11 rfl rfl (fun f=>yM 2 (.t rfl) (.t rfl) yL JC rfl rfl rfl) (fun f g h=>by rw[h 10 (show 10∈ [10]from by decide)]) rfl)<|.nil) rfl fun g2=>nx (E1 4 rfl) (R2 2 3 rfl)<|De<|D5 (To.freeze 1 (fun _ h=>h) rfl Dv rfl)<|zQ (.cons (.ag 0 (.t rfl) GF rfl rfl rfl)<|.nil) (zM (yD (Dx (.cons (DN 0 4 rfl rfl)<|.nil))) ?_)
 exact zL
theorem Ul:V9 prog 45:=⟨_,func45,rfl,by kernel_rfl⟩
theorem RB{x y:Rat}(hx:FV 200000000 x)(hy:FV 200000000 y):Ct prog 45 [Nx x,Nx y] (Nx (x-y)):=by
 refine Ct.of func45 rfl (by kernel_rfl) rfl fun c0=>yN (To.emps 3)<|zV (.w 0 (xa 0 rfl yL rfl)<|.w 1 (xa 1 rfl yL rfl)<|.w 2 (xj 2 GK rfl)<|.nil) rfl fun g1=>nx (E3 2 3 4 rfl) (R3 0 1 2 rfl)<|zC<|DS<|zV (.w 3 (xj 3 MP rfl)<|.n (xe J8 rfl)<|.r 0 (xf 0 Ol rfl zJ rfl)<|.n (xe J8 rfl)<|.r 1 (xf 1 Ol rfl zJ rfl)<|.w 3 (F6 3 rfl rfl (fun u=>me (by assumption) (by assumption)) rfl (A2 rfl))<|.n (HP 10 11 rfl rfl rfl (fun f=>(D1 GK rfl Ob (.g HH rfl .nil))) (fun f g h=>by rw[h 10 (show 10∈ [10]from by decide)]) rfl)<|.w 2 (LQ 11 rfl rfl (fun f=>yM 2 (.t rfl) (.t rfl) yL JC rfl rfl rfl) (fun f g h=>by rw[h 10 (show 10∈ [10]from by decide)]) rfl)<|.nil) rfl fun g2=>nx (E1 4 rfl) (R2 2 3 rfl)<|De<|D5 (To.freeze 1 (fun _ h=>h) rfl Dv rfl)<|zQ (.cons (.ag 0 (.t rfl) GF rfl rfl rfl)<|.nil) (zM (yD (Dx (.cons (DN 0 4 rfl rfl)<|.nil))) ?_)
 exact zL
theorem eV{x y:Rat}(hx:FV 200000000 x)(hy:FV 200000000 y):Ct prog 134 [Nx x,Nx y] (Nx (x*y)):=by
 refine Ct.of func134 rfl (by kernel_rfl) rfl fun c0=>yN (To.emps 3)<|zV (.w 0 (xa 0 rfl yL rfl)<|.w 1 (xa 1 rfl yL rfl)<|.w 2 (xj 2 GK rfl)<|.nil) rfl fun g1=>nx (E3 2 3 4 rfl) (R3 0 1 2 rfl)<|zC<|DS<|zV (.w 3 (xj 3 MP rfl)<|.n (xe J8 rfl)<|.r 0 (xf 0 Ol rfl zJ rfl)<|.n (xe J8 rfl)<|.r 1 (xf 1 Ol rfl zJ rfl)<|.w 3 (F6 3 rfl rfl (fun u=>m9 (by assumption) (by assumption)) rfl (A2 rfl))<|.n (HP 10 11 rfl rfl rfl (fun f=>(D1 GK rfl Ob (.g HH rfl .nil))) (fun f g h=>by rw[h 10 (show 10∈ [10]from by decide)]) rfl)<|.w 2 (LQ 11 rfl rfl (fun f=>yM 2 (.t rfl) (.t rfl) yL JC rfl rfl rfl) (fun f g h=>by rw[h 10 (show 10∈ [10]from by decide)]) rfl)<|.nil) rfl fun g2=>nx (E1 4 rfl) (R2 2 3 rfl)<|De<|D5 (To.freeze 1 (fun _ h=>h) rfl Dv rfl)<|zQ (.cons (.ag 0 (.t rfl) GF rfl rfl rfl)<|.nil) (zM (yD (Dx (.cons (DN 0 4 rfl rfl)<|.nil))) ?_)
 exact zL
theorem l7{x y:Rat}(hx:FV 200000000 x)(hy:FV 200000000 y)(hy0:y≠0):Ct prog 89 [Nx x,Nx y] (Nx (x/y)):=by
 refine Ct.of func89 rfl (by kernel_rfl) rfl fun c0=>yN (To.emps 3)<|zV (.w 0 (xa 0 rfl yL rfl)<|.w 1 (xa 1 rfl yL rfl)<|.w 2 (xj 2 GK rfl)<|.nil) rfl fun g1=>nx (E3 2 3 4 rfl) (R3 0 1 2 rfl)<|zC<|DS<|zV (.w 3 (xj 3 MP rfl)<|.n (xe J8 rfl)<|.r 0 (xf 0 Ol rfl zJ rfl)<|.n (xe J8 rfl)<|.r 1 (xf 1 Ol rfl zJ rfl)<|.w 3 (F6 3 rfl rfl (fun u=>mc (by assumption) (by assumption) (by assumption)) rfl (A2 rfl))<|.n (HP 10 11 rfl rfl rfl (fun f=>(D1 GK rfl Ob (.g HH rfl .nil))) (fun f g h=>by rw[h 10 (show 10∈ [10]from by decide)]) rfl)<|.w 2 (LQ 11 rfl rfl (fun f=>yM 2 (.t rfl) (.t rfl) yL JC rfl rfl rfl) (fun f g h=>by rw[h 10 (show 10∈ [10]from by decide)]) rfl)<|.nil) rfl fun g2=>nx (E1 4 rfl) (R2 2 3 rfl)<|De<|D5 (To.freeze 1 (fun _ h=>h) rfl Dv rfl)<|zQ (.cons (.ag 0 (.t rfl) GF rfl rfl rfl)<|.nil) (zM (yD (Dx (.cons (DN 0 4 rfl rfl)<|.nil))) ?_)
 exact zL
theorem LM{x:Rat}:Ct prog 86 [Nx x] (I6 (HT x.num)):=by
 refine Ct.of func86 rfl (by kernel_rfl) rfl fun c0=>DS<|zV (.w 0 (xa 0 rfl yL rfl)<|.b rfl<|.nil) rfl fun g1=>CZ 0 (E1 1 rfl) rfl<|zW (.n (xe J8 rfl)<|.r 0 (xf 0 Ol rfl zJ rfl)<|.n (zP (fA) (A1 rfl))<|.z rfl) rfl fun g2=>CY (E1 2 rfl)<|De<|DO rfl<|zL
end Go.Proofs.YtgfanjebfjeneaaGreatDoor
