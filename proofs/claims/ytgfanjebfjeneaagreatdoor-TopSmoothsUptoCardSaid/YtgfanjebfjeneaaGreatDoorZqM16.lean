/- Printed by a program of ours (walk.py): walks of matrices of numbers: how one stands to nought, made of floats, compared. -/
import Derived.Test.YtgfanjebfjeneaaGreatDoorZqM1
import Derived.Test.YtgfanjebfjeneaaGreatDoorProg
import Derived.KernelRfl
import Derived.Test.YtgfanjebfjeneaaGreatDoorZqM11
import Derived.Test.YtgfanjebfjeneaaGreatDoorZqM15
import Derived.Test.YtgfanjebfjeneaaGreatDoorZqM9
import Derived.Test.YtgfanjebfjeneaaGreatDoorZqM2
set_option linter.unusedVariables false
set_option linter.unusedSimpArgs false
set_option maxRecDepth 20000
set_option maxHeartbeats 8000000
namespace Go.Proofs.YtgfanjebfjeneaaGreatDoor
open Go Go.Bn Go.Proofs.Tryz
attribute [local irreducible] OpOK
theorem gL:Ct prog 88 [I6 0] (Nx 0):=(by have h:=od (n:=0) (by decide);rwa [show mkRat ((0:Nat):Int) 1=0 by decide]at h)
theorem SY{U:Value}{n:Nat}{qs:List Rat}{M:Nat→Nat→Rat}(hl:qs.length=n*n)(h9:n≤12)(hM: ∀ r j,r<n→j<n→qs.getD (r*n+j) 0=M r j)(hz: ∀ i j,i<n→j<n→FV 45 (M i j)):En prog 47 [DL [I6 (n:Int),I6 (n:Int),CW U]] (DC U EE qs 104) (I6 (GY M n)) (Zx U qs.length 104):=by
 refine En.of func47 rfl (by kernel_rfl) rfl (Kp) fun c0 ob hr0=>?_
 have hnn:n*n≤144:=C9 h9 h9
 refine DS<|zV (.w 1 (xa 1 rfl yL rfl)<|.b rfl<|.nil) rfl fun g1=>nx (E1 1 rfl) (R2 0 1 rfl)<|zW (.b rfl<|.nil) rfl fun g2=>nx (E2 1 3 rfl) (R2 0 1 rfl)<|Dd<|zV (.n (xe KW rfl)<|.r 1 (xf 1 Ez rfl zJ rfl)<|.n (zA (.k rfl))<|.nil) rfl fun g3=>nx (E4 1 3 9 10 rfl) (R2 0 1 rfl)<|zC<|zT<|D4 (α:=Nat×List Rat) (fun x=>x.1≤n∧Sy x.2 M n x.1 0∧ ∀ k,k<x.1→ ¬de M n k) (fun x=>n-x.1) (fun x restR=>(10,I6 (x.1:Int))::(3,I6 (RX M x.1))::restR) (fun x restS=>DC U EE x.2 104::restS) (ρc:=[(1,_),(9,_)]) (σc:=[_]) (0,qs) (by exact⟨A7 _,Vx hl hM,fun k hk=>absurd hk (Bl k)⟩) (Es (fun _=>F1 10 rfl<|.sub (t:=3) rfl (yO (by rw[wv]))<|E2 1 9 rfl) fun _=>R2 0 1 rfl) (fun x hI=>?_)
 obtain⟨c,l⟩:=x
 try simp only at hI
 show J _ _ ((10,I6 (c:Int))::(3,I6 (RX M c))::_) (DC U EE l 104::_) _ _
 refine zV (.n (xw rfl)<|.nil) rfl fun g4=>nx (E5 1 3 9 10 11 rfl) (R2 0 1 rfl)<|Dd<|zh rfl (fun h1=>?_) (fun h1=>?_)<;>try simp only[CT,Z]at h1
 ·obtain⟨hc,hA,hB⟩:=hI
  have hcn:c<n:=by omega
  have hcc:=Kf hcn hcn
  have hll:l.length=n*n:=hA.1
  have hpe:l.getD (c*n+c) 0=HB M c c c:=iz hA hcn
  refine yE<|Dd<|zT<|zV (.m rfl<|.z rfl) rfl fun g5=>nx (E5 1 3 4 9 10 rfl) (R2 0 1 rfl)<|zC<|DS<|zV (.r 1 (xc 1 KP rfl zJ rfl)<|.mm rfl<|.w 0 (CV 0 (NS (by omega) (by omega)) (A3 rfl) rfl)<|.w 2 (xj 2 GK rfl)<|.w 2 (xm 2 rfl yL JC rfl)<|.nil) rfl fun g6=>nx (E6 1 3 4 5 9 10 rfl) (R3 0 1 2 rfl)<|Dd<|zV (.r 2 (xc 2 GF rfl zJ rfl)<|.n (zP (LM) (A1 rfl))<|.n (xd rfl)<|.nil) rfl fun g7=>nx (E7 1 3 4 5 9 10 19 rfl) (R3 0 1 2 rfl)<|zC<|zh rfl (fun h2=>?_) (fun h2=>?_)<;>try simp only[CT,Z]at h2
  ·have hng:HB M c c c<0:=hpe▸Xs.1 h2
   refine zV (.b rfl<|.nil) rfl fun g8=>CZ 0 (E1 2 rfl) rfl<|De<|zD<|yP<|zD<|zD<|yP<|zD<|D5 (To.res 0 (r':=Zx U qs.length 104) rfl (UT (by omega)) rfl)<|Db 0 hr0 (Kp) rfl (.cons (.tmp (.t rfl))<|.nil) (zM (yD zL) ?_)
   exact Dc (S6 hcn (.inl hng)).symm
  have hge: ¬HB M c c c<0:=fun h=>by have h2:=Xs.2 (hpe▸h);omega
  refine yE<|Dd<|zV (.m rfl<|.n (xo rfl (wo (by omega)))<|.z rfl) rfl fun g9=>nx (E7 1 3 4 5 6 9 10 rfl) (R3 0 1 2 rfl)<|zC<|zT<|D4 (α:=Nat×List Rat) (fun x=>c+1≤x.1∧x.1≤n∧Sy x.2 M n c x.1∧Vm M c x.1) (fun x=>n-x.1) (fun x restR=>(6,I6 (x.1:Int))::restR) (fun x restS=>DC U EE x.2 104::restS) (ρc:=[(1,_),(3,_),(4,_),(5,_),(9,_),(10,_)]) (σc:=[_,_]) (c+1,l) (by exact⟨A5 _,hcn,SI hA,WG⟩) (Es (fun _=>E7 6 1 3 4 5 9 10 rfl) fun _=>R3 0 1 2 rfl) (fun x hJ=>?_)
  obtain⟨i,m⟩:=x
  try simp only at hJ
  show J _ _ ((6,I6 (i:Int))::_) (DC U EE m 104::_) _ _
  refine zF<|zV (.m rfl<|.n (xe KW rfl)<|.r 1 (xf 1 Ez rfl zJ rfl)<|.n (xw rfl)<|.nil) rfl fun g10=>nx (E8 1 3 4 5 6 9 10 25 rfl) (R3 0 1 2 rfl)<|zC<|zh rfl (fun h3=>?_) (fun h3=>?_)<;>try simp only[CT,Z]at h3
  ·obtain⟨hJ1,hJ2,hm,hN⟩:=hJ
   have hin:i<n:=by omega
   have hml:m.length=n*n:=hm.1
   have hic:=Kf (c:=n) (k:=c) hin hcn
   have hxe:m.getD (i*n+c) 0=HB M c i c:=iA hm hin hcn
   refine yE<|Dd<|zT<|DS<|zV (.r 1 (xc 1 KP rfl zJ rfl)<|.mm rfl<|.w 0 (CV 0 (NS (by omega) (by omega)) (A3 rfl) rfl)<|.w 3 (xj 3 GK rfl)<|.w 3 (xm 3 rfl yL JC rfl)<|.nil) rfl fun g11=>nx (E8 1 3 4 5 6 7 9 10 rfl) (R4 0 1 2 3 rfl)<|zC<|zT<|zV (.r 3 (xc 3 GF rfl zJ rfl)<|.n (zP (LM) (A1 rfl))<|.n (xd rfl)<|.z rfl) rfl fun g12=>nx (E9 1 3 4 5 6 7 9 10 41 rfl) (R4 0 1 2 3 rfl)<|zC<|zh rfl (fun h4=>?_) (fun h4=>?_)<;>try simp only[CT,Z]at h4
   ·have hx0:HB M c i c=0:=hxe▸Jp.1 h4
    refine yE<|zR<|zR<|zC<|(zG [] (.m rfl<|.n (xo rfl (wo (by omega)))<|.z rfl) ff rfl fun g13=>nx (E7 1 3 4 5 6 9 10 rfl) (R3 0 1 2 rfl) ?_)
    exact yW (i+1,m) (by first|exact⟨show c+1≤i+1 by omega,show i+1≤n by omega,Vw hm (by omega) hin hx0,L2 hN (.inl hx0)⟩|exact⟨show c+1≤i+1 by omega,show i+1≤n by omega,Vv hm (by omega) hin hpe,L2 hN (.inr hp0)⟩) (by show n-(_+1)<_;omega) (Es (fun _=>E7 6 1 3 4 5 9 10 rfl) fun _=>R3 0 1 2 rfl)
   have hx0:HB M c i c≠0:=fun h=>h4 (Jp.2 (hxe.trans h))
   refine zV (.r 2 (xc 2 GF rfl zJ rfl)<|.n (zP (LM) (A1 rfl))<|.n (xd rfl)<|.z rfl) rfl fun g14=>nx (E9 1 3 4 5 6 7 9 10 45 rfl) (R4 0 1 2 3 rfl)<|zC<|zh rfl (fun h5=>?_) (fun h5=>?_)<;>try simp only[CT,Z]at h5
   ·have hp0:HB M c c c=0:=hpe▸Jp.1 h5
    refine zV (.b rfl<|.nil) rfl fun g15=>CZ 0 (E1 2 rfl) rfl<|De<|yP<|yP<|zD<|zD<|yP<|zD<|yP<|zD<|zD<|yP<|zD<|D5 (To.res 0 (r':=Zx U qs.length 104) rfl (UT (by omega)) rfl)<|Db 0 hr0 (Kp) rfl (.cons (.tmp (.t rfl))<|.nil) (zM (yD zL) ?_)
    exact Dc (S6 hcn (.inr ⟨hp0,i,by omega,hin,hx0⟩)).symm
   have hp0:HB M c c c≠0:=fun h=>h5 (Jp.2 (hpe.trans h))
   have hpn:l.getD (c*n+c) 0≠0:=hpe▸hp0
   have sx:FV 192000000 (m.getD (i*n+c) 0):=hxe▸c8 h9 hz c i c hin hcn
   have sp:FV 192000000 (l.getD (c*n+c) 0):=hpe▸c8 h9 hz c c c hcn hcn
   have hir:i*n+n≤n*n:=by rw[←B6];exact Au n hin
   have hcr:c*n+n≤n*n:=by rw[←B6];exact Au n hcn
   obtain⟨sq,sf,sA,sB⟩:=nF h9 hz hm hin hcn hJ1 hpe
   refine(zG [[],[],[],[],[],[],[3,4,5],[3,4,5,6],[0,1,2,3,4,5,6,7]] (.r 1 (xc 1 KP rfl zJ rfl)<|.mm rfl<|.n (zP (gL) ⟨(.k rfl),trivial⟩)<|.r 3 (xc 3 GF rfl zJ rfl)<|.r 2 (xc 2 GF rfl zJ rfl)<|.n (zP (l7 (sx.mono (by omega)) (sp.mono (by omega)) hpn) (A2 rfl))<|.n (zP (RB (FV.zero.mono (by omega)) sq) (A2 rfl))<|.w 0 (CV 0 (pU (by omega) (by omega) (by omega) (by omega) sf sA sB) (A4 rfl) rfl)<|.nil) (fun _=>Di) rfl fun g16=>nx (E7 1 3 4 5 6 9 10 rfl) (R3 0 1 2 rfl) ?_)
   refine zR<|zR<|zC<|(zG [] (.m rfl<|.n (xo rfl (wo (by omega)))<|.z rfl) ff rfl fun g17=>nx (E7 1 3 4 5 6 9 10 rfl) (R3 0 1 2 rfl) ?_)
   exact yW (i+1,J2 m i c n (m.getD (i*n+c) 0/l.getD (c*n+c) 0) n) (by first|exact⟨show c+1≤i+1 by omega,show i+1≤n by omega,Vw hm (by omega) hin hx0,L2 hN (.inl hx0)⟩|exact⟨show c+1≤i+1 by omega,show i+1≤n by omega,Vv hm (by omega) hin hpe,L2 hN (.inr hp0)⟩) (by show n-(_+1)<_;omega) (Es (fun _=>E7 6 1 3 4 5 9 10 rfl) fun _=>R3 0 1 2 rfl)
  obtain⟨hJ1,hJ2,hm,hN⟩:=hJ
  have hin:i=n:=by omega
  have hml:m.length=n*n:=hm.1
  have hnb:=jw hge (hin▸hN)
  refine D6<|zE<|zE<|zS<|zW (.r 2 (xc 2 GF rfl zJ rfl)<|.n (zP (LM) (A1 rfl))<|.n (xd rfl)<|.nil) rfl fun g18=>nx (E5 1 3 9 10 51 rfl) (R2 0 1 rfl)<|zC<|zh rfl (fun h6=>?_) (fun h6=>?_)<;>try simp only[CT,Z]at h6
  ·have hp0:HB M c c c=0:=hpe▸Jp.1 h6
   refine(zG [] (.b rfl<|.nil) ff rfl fun g19=>nx (E4 1 3 9 10 rfl) (R2 0 1 rfl) ?_)
   refine zR<|zC<|(zG [] (.n (xo rfl (wo (by omega)))<|.m rfl<|.nil) ff rfl fun g20=>nx (E4 1 3 9 10 rfl) (R2 0 1 rfl) ?_)
   exact yW (c+1,m) (by exact⟨show c+1≤n by omega,QF (hin▸hm),fun k hk=>by by_cases e:k=c;exact e▸hnb;exact hB k (by have:k<c+1:=hk;omega)⟩) (by show n-(_+1)<_;omega) (Es (fun _=>F1 10 rfl<|.sub (t:=3) rfl (yO (by first|rw[Tn hp0]|rw[Xo hp0]))<|E2 1 9 rfl) fun _=>R2 0 1 rfl)
  have hp0:HB M c c c≠0:=fun h=>h6 (Jp.2 (hpe.trans h))
  refine yE<|zR<|zC<|(zG [] (.n (xo rfl (wo (by omega)))<|.m rfl<|.nil) ff rfl fun g21=>nx (E4 1 3 9 10 rfl) (R2 0 1 rfl) ?_)
  exact yW (c+1,m) (by exact⟨show c+1≤n by omega,QF (hin▸hm),fun k hk=>by by_cases e:k=c;exact e▸hnb;exact hB k (by have:k<c+1:=hk;omega)⟩) (by show n-(_+1)<_;omega) (Es (fun _=>F1 10 rfl<|.sub (t:=3) rfl (yO (by first|rw[Tn hp0]|rw[Xo hp0]))<|E2 1 9 rfl) fun _=>R2 0 1 rfl)
 obtain⟨hc,hA,hB⟩:=hI
 have hcn:c=n:=by omega
 have hll:l.length=n*n:=hA.1
 refine D6<|zE<|zE<|zS<|zW (.m rfl<|.z rfl) rfl fun g22=>CZ 0 (E1 2 rfl) rfl<|De<|D5 (To.res 0 (r':=Zx U qs.length 104) rfl (UT (by omega)) rfl)<|Db 0 hr0 (Kp) rfl (.cons (.tmp (.t rfl))<|.nil) (zM (yD zL) ?_)
 exact Dc (by rw[LZ (fun k hk=>hB k (by omega)),hcn])
theorem jx{U:Value}{n:Nat}{qs:List Rat}{M:Nat→Nat→Rat}(hl:qs.length=n*n)(h9:n≤12)(hM: ∀ r j,r<n→j<n→qs.getD (r*n+j) 0=M r j)(hz: ∀ i j,i<n→j<n→FV 45 (M i j))(hs: ∀ i j,i<n→j<n→M i j=M j i):En prog 104 [DL [I6 (n:Int),I6 (n:Int),CW U]] (DC U EE qs 104) (I6 (GY M n)) (Zx U qs.length 104):=by
 refine En.of func104 rfl (by kernel_rfl) rfl (Kp) fun c0 ob hr0=>?_
 have hnn:n*n≤144:=C9 h9 h9
 have hzz: ∀ m,m<qs.length→FV 200000000 (qs.getD m 0):=fun m hm=>Xh hl hM hz m hm
 have hsy: ∀ i j,i<n→j<n→qs.getD (i*n+j) 0=qs.getD (j*n+i) 0:=fun i j hi hj=>by rw[hM i j hi hj,hM j i hj hi,hs i j hi hj]
 refine DS<|zV (.w 1 (xa 1 rfl yL rfl)<|.b rfl<|.nil) rfl fun g1=>nx (E1 1 rfl) (R2 0 1 rfl)<|zW (.n (xe KW rfl)<|.r 1 (xf 1 Ez rfl zJ rfl)<|.n (xe Kd rfl)<|.r 1 (xf 1 Ez rfl zJ rfl)<|.n (oc rfl (.t rfl) (.t rfl) (Jh rfl))<|.n (zP (Ji) ⟨(.t rfl),(.k rfl),trivial⟩)<|.nil) rfl fun g2=>nx (E1 1 rfl) (R2 0 1 rfl)<|zW (.r 1 (xc 1 KP rfl zJ rfl)<|.r 0 (O5 0 (Uc hl h9 hzz hsy) mf ⟨.inr ⟨_,(.t rfl),T4⟩,trivial⟩ rfl)<|.nil) rfl fun g3=>nx (E1 1 rfl) (R2 0 1 rfl)<|zW (.r 1 (xc 1 KP rfl zJ rfl)<|.w 0 (CV 0 (SY hl h9 hM hz) (A1 rfl) rfl)<|.z rfl) rfl fun g4=>CZ 0 (E1 2 rfl) rfl<|De<|Db 0 hr0 (Kp) rfl (.cons (.tmp (.t rfl))<|.nil) (zM (yD zL) ?_)
 exact zL
theorem jr{r c:Nat}{xs ys:List Rat}(hx:xs.length=r*c)(hy:ys.length=r*c)(h9:r*c≤1000)(zx: ∀ m,m<r*c→FV 200000000 (xs.getD m 0))(zy: ∀ m,m<r*c→FV 200000000 (ys.getD m 0)):OH prog 44 [DL [I6 (r:Int),I6 (c:Int),I2 EE xs],DL [I6 (r:Int),I6 (c:Int),I2 EE ys],fnq prog (α:=Rat×Rat) (fun i=>FV 200000000 i.1∧FV 200000000 i.2) (fun i=>[Nx i.1,Nx i.2]) (fun i=>Nx (i.1-i.2))] (ZY 2) (fun u=>DL [I6 (r:Int),I6 (c:Int),CW u]) (fun u=>DC u EE (PV xs ys (r*c)) 104):=by
 refine OH.of func44 rfl (by kernel_rfl) rfl fun c0=>yN (To.emps 3)<|zV (.w 0 (xa 0 rfl yL rfl)<|.w 1 (xa 1 rfl yL rfl)<|.w 2 (xj 2 ZQ rfl)<|.nil) rfl fun g1=>nx (E4 2 3 4 6 rfl) (R3 0 1 2 rfl)<|zW (.n (xe KW rfl)<|.r 0 (xf 0 Ez rfl zJ rfl)<|.n (xe KW rfl)<|.r 1 (xf 1 Ez rfl zJ rfl)<|.n (oc rfl (.t rfl) (.t rfl) (Jh rfl))<|.m rfl<|.n (gu rfl (fun hC=>(xe Kd rfl)))<|.r 0 (gu rfl (fun hC=>(zN 0 Ez (.w rfl hC) rfl zJ rfl)))<|.n (gu rfl (fun hC=>(xe Kd rfl)))<|.r 1 (gu rfl (fun hC=>(zN 1 Ez (.w rfl hC) rfl zJ rfl)))<|.n (gu rfl (fun hC=>(oc rfl (.w rfl hC) (.w rfl hC) (Jh rfl))))<|.n (EO (.t rfl) (fun h2=>(.w rfl h2)))<|.n (zP (Ji) ⟨(.t rfl),(.k rfl),trivial⟩)<|.nil) rfl fun g2=>nx (E4 2 3 4 6 rfl) (R3 0 1 2 rfl)<|zC<|DS<|zV (.n (xe KW rfl)<|.r 0 (xf 0 Ez rfl zJ rfl)<|.n (xe Kd rfl)<|.r 0 (xf 0 Ez rfl zJ rfl)<|.n (D1 ZQ rfl zm (.g D7 rfl (.g D7 rfl .nil)))<|.w 3 (xj 3 ZQ rfl)<|.w 3 (xm 3 rfl yL nP rfl)<|.nil) rfl fun g3=>nx (E5 2 3 4 6 7 rfl) (R4 0 1 2 3 rfl)<|Dd<|zV (.n (xe KX rfl)<|.r 0 (xf 0 Zp rfl zJ rfl)<|.n (xv Sr rfl)<|.n (zA (.k rfl))<|.nil) rfl fun g4=>nx (E7 2 4 6 7 29 30 31 rfl) (R3 1 2 3 rfl)<|zC<|zT<|DS<|D4 (α:=Nat×Value) (fun y=>y.1≤r*c) (fun y=>r*c-y.1) (fun y restR=>(31,I6 (y.1:Int))::restR) (fun y restS=>DC y.2 EE (PV xs ys y.1) 104::Dh (g3 7) [I6 (r:Int),I6 (c:Int),CW y.2] 79::restS) (ρc:=[(2,_),(4,_),(6,_),(7,_),(29,_),(30,_)]) (σc:=[_,_]) (0,.slice none 0 0) (by exact A7 _) (To.pick (fun _=>E7 31 2 4 6 7 29 30 rfl) (fun _=> .sub 3 rfl (FA)<|.sub 2 rfl (fun _ _ h=>h)<|.k 0 rfl<|.k 1 rfl<|.nil) (ks:=[3,2,0,1]) rfl) (fun y hI=>?_)
 obtain⟨k,sv⟩:=y
 try simp only at hI
 show J _ _ ((31,I6 (k:Int))::_) (DC sv EE (PV xs ys k) 104::Dh (g3 7) [I6 (r:Int),I6 (c:Int),CW sv] 79::_) _ _
 have hzl:=Pw xs ys k
 refine zV (.n (xw rfl)<|.nil) rfl fun g5=>nx (E8 2 4 6 7 29 30 31 32 rfl) (R4 0 1 2 3 rfl)<|Dd<|zh rfl (fun h1=>?_) (fun h1=>?_)<;>try simp only[CT,Z]at h1
 ·refine yE<|Dd<|zT<|DS<|zV (.m rfl<|.n (xx 0 Sr rfl (by omega) (by omega))<|.n (DB GF (.t rfl) rfl rfl)<|.w 4 (xj 4 GK rfl)<|.a rfl<|.w 4 (xm 4 rfl yL JC rfl)<|.nil) rfl fun g6=>nx (E9 2 4 6 7 8 9 29 30 31 rfl) (R5 0 1 2 3 4 rfl)<|zC<|(zG [[],[0],[],[],[],[4],[],[4,5,6],[4,5,6,7],[2,3,4,5,6,7,8],[2,3,4,5,6,7,8,9],[0,1,2,3,4,5,6,7,8,9,10],[0,1,2,3,4,5,6,7,8,9,10,11],[0,1,2,3,4,5,6,7,8,9,10,11,12]] (.n (xe KX rfl)<|.r 1 (xf 1 Zp rfl zJ rfl)<|.m rfl<|.r 4 (xc 4 GF rfl zJ rfl)<|.n (xe KX rfl)<|.r 2 (xf 2 Zp rfl zJ rfl)<|.m rfl<|.n (xx 0 Sr rfl (by omega) (by omega))<|.n (DB GF (.t rfl) rfl rfl)<|.n (WQ (P:=prog) (xs.getD ((k:Nat):Int).toNat 0,ys.getD ((k:Nat):Int).toNat 0) (.t rfl) (A2 rfl) ⟨zx k (by omega),zy k (by omega)⟩)<|.n (xC Sr GK rfl (.cons rfl (.t rfl) yL rfl (yU rfl (A8 rfl)) .nil))<|.w 0 (EC (mk:=EE) 0 Sr GK rfl (.t rfl) (.t rfl) rfl (by omega) (by omega))<|.n (xe KX rfl)<|.w 1 (EJ 1 (.t rfl) rfl a0u rfl rfl)<|.nil) (fun _=>Di) rfl fun g7=>nx (E7 2 4 6 7 29 30 31 rfl) (R4 0 1 2 3 rfl) ?_)
  refine zR<|zC<|(zG [] (.n (xo rfl (wo (by omega)))<|.m rfl<|.nil) ff rfl fun g8=>nx (E7 2 4 6 7 29 30 31 rfl) (R4 0 1 2 3 rfl) ?_)
  exact yW (k+1,(g7 47)) (by show k+1≤r*c;omega) (by show r*c-(_+1)<_;omega) (To.pick (fun _=>E7 31 2 4 6 7 29 30 rfl) (fun _=> .sub 0 rfl (yQ (by rw[gO];rfl))<|.sub 1 rfl (fun _ _ h=>h)<|.k 2 rfl<|.k 3 rfl<|.nil) (ks:=[0,1,2,3]) rfl)
 refine D6<|zE<|zE<|zS<|zW (.r 1 (xc 1 KP rfl zJ rfl)<|.w 3 (xn 3 rfl yL nP rfl)<|.nil) rfl fun g9=>nx (E1 6 rfl) (R2 0 3 rfl)<|De<|D5 (To.res 0 (r':=DC sv EE (PV xs ys (r*c)) 104) rfl (yQ (by rw[show k=r*c by omega])) rfl)<|HD (u:=sv) 0 rfl rfl (.ag 1 (.t rfl) KP rfl rfl rfl) (OL rfl)<|zL
theorem ju{n:Nat}{xs ys:List Rat}{M:Nat→Nat→Rat}(hx:xs.length=n*n)(hy:ys.length=n*n)(h9:n≤12)(zx: ∀ m,m<n*n→FV 200000000 (xs.getD m 0))(zy: ∀ m,m<n*n→FV 200000000 (ys.getD m 0))(sx: ∀ i j,i<n→j<n→xs.getD (i*n+j) 0=xs.getD (j*n+i) 0)(sy: ∀ i j,i<n→j<n→ys.getD (i*n+j) 0=ys.getD (j*n+i) 0)(hM: ∀ r j,r<n→j<n→ys.getD (r*n+j) 0-xs.getD (r*n+j) 0=M r j)(hz: ∀ i j,i<n→j<n→FV 45 (M i j)):Ct prog 23 [DL [I6 (n:Int),I6 (n:Int),I2 EE xs],DL [I6 (n:Int),I6 (n:Int),I2 EE ys]] (CW (.bool (CT .neq (GY M n) 1))):=by
 refine Ct.of func23 rfl (by kernel_rfl) rfl fun c0=>?_
 have hnn:n*n≤144:=C9 h9 h9
 have hxl:=fun m (h:m<xs.length)=>zx m (hx▸h)
 have hyl:=fun m (h:m<ys.length)=>zy m (hy▸h)
 have hzM: ∀ r j,r<n→j<n→(PV ys xs (n*n)).getD (r*n+j) 0=M r j:=fun r j hr hj=>by rw[sV (Kf hr hj),hM r j hr hj]
 have hzL:=Pw ys xs (n*n)
 refine yN (To.emps 2)<|zV (.w 0 (xa 0 rfl yL rfl)<|.w 1 (xa 1 rfl yL rfl)<|.b rfl<|.nil) rfl fun g1=>nx (E2 2 3 rfl) (R2 0 1 rfl)<|zW (.n (xe KW rfl)<|.r 0 (xf 0 Ez rfl zJ rfl)<|.n (xe Kd rfl)<|.r 0 (xf 0 Ez rfl zJ rfl)<|.n (oc rfl (.t rfl) (.t rfl) (Jh rfl))<|.m rfl<|.n (gu rfl (fun hC=>(xe KW rfl)))<|.r 1 (gu rfl (fun hC=>(zN 1 Ez (.w rfl hC) rfl zJ rfl)))<|.n (gu rfl (fun hC=>(xe Kd rfl)))<|.r 1 (gu rfl (fun hC=>(zN 1 Ez (.w rfl hC) rfl zJ rfl)))<|.n (gu rfl (fun hC=>(oc rfl (.w rfl hC) (.w rfl hC) (Jh rfl))))<|.n (EO (.t rfl) (fun h2=>(.w rfl h2)))<|.n (zP (Ji) ⟨(.t rfl),(.k rfl),trivial⟩)<|.nil) rfl fun g2=>nx (E2 2 3 rfl) (R2 0 1 rfl)<|zC<|yN (To.emps 2)<|zV (.r 1 (xc 1 KP rfl zJ rfl)<|.r 0 (xc 0 KP rfl zJ rfl)<|.w 2 (HO 2 (jr hy hx (by omega) zy zx) ⟨(.t rfl),(.t rfl),(Lk.fnq (α:=Rat×Rat) (C:=fun i=>FV 200000000 i.1∧FV 200000000 i.2) (ps:=fun i=>[Nx i.1,Nx i.2]) (R:=fun i=>Nx (i.1-i.2)) (fun i hC=>RB hC.1 hC.2) Ul),trivial⟩ rfl)<|.w 3 (xj 3 ZQ rfl)<|.w 3 (Ey 3 rfl rfl rfl (fun f=>yL) (fun f g h=>by rw[h 21 (show 21∈ [21]from by decide)]) (fun _=>nP) rfl (fun _=>rfl) rfl)<|.nil) rfl fun g3=>nx (E3 2 3 5 rfl) (R4 0 1 2 3 rfl)<|zW (.r 0 (xc 0 KP rfl zJ rfl)<|.n (zP (Uc hx h9 hxl sx) (A1 rfl))<|.nil) rfl fun g4=>nx (E2 3 5 rfl) (R3 1 2 3 rfl)<|zW (.r 0 (xc 0 KP rfl zJ rfl)<|.n (zP (Uc hy h9 hyl sy) (A1 rfl))<|.nil) rfl fun g5=>nx (E1 5 rfl) (R2 1 2 rfl)<|zW (.r 1 (xc 1 KP rfl zJ rfl)<|.w 0 (CV 0 (SY hzL h9 hzM hz) (A1 rfl) rfl)<|.n (xd rfl)<|.z rfl) rfl fun g6=>CY (E1 4 rfl)<|De<|DO rfl<|zL
theorem VO{r c:Nat}{Q:List Nat}(hk:Gs (r:Int) (c:Int) Q=0):OH prog 22 [EY (r:Int) (c:Int) Q] (ZY 2) (fun u=>DL [I6 (r:Int),I6 (c:Int),CW u]) (fun u=>DC u EE (Q.map Hc) 104):=by
 refine OH.of func22 rfl (by kernel_rfl) rfl fun c0=>?_
 have hg:=Eg hk
 have hs:=hg.1
 have hln:=hg.2
 have hsq:=hs.mul
 have hQ9:Q.length≤144:=by omega
 refine yN (To.emps 2)<|zV (.w 0 (xa 0 rfl yL rfl)<|.w 1 (xj 1 ZQ rfl)<|.nil) rfl fun g1=>nx (E2 1 2 rfl) (R2 0 1 rfl)<|zW (.r 0 (xc 0 Dw rfl zJ rfl)<|.n (zP (IZ) (A1 rfl))<|.z rfl) rfl fun g2=>nx (E3 1 2 3 rfl) (R2 0 1 rfl)<|zW (.m rfl<|.n (oc rfl (.t rfl) (.k rfl) (Jh hk))<|.m rfl<|.n (zP (Ji) (A2 rfl))<|.nil) rfl fun g3=>nx (E2 1 2 rfl) (R2 0 1 rfl)<|zC<|DS<|zV (.n (xe Ev rfl)<|.r 0 (xf 0 Ez rfl zJ rfl)<|.n (xe EG rfl)<|.r 0 (xf 0 Ez rfl zJ rfl)<|.n (D1 ZQ rfl zm (.g D7 rfl (.g D7 rfl .nil)))<|.w 2 (xj 2 ZQ rfl)<|.w 2 (xm 2 rfl yL nP rfl)<|.nil) rfl fun g4=>nx (E3 1 2 4 rfl) (R3 0 1 2 rfl)<|Dd<|zV (.n (xe Ek rfl)<|.r 0 (xf 0 Eo rfl zJ rfl)<|.n (xv Dl rfl)<|.n (zA (.k rfl))<|.nil) rfl fun g5=>nx (E5 2 4 19 20 21 rfl) (R2 1 2 rfl)<|zC<|zT<|DS<|D4 (α:=Nat×Value) (fun y=>y.1≤Q.length) (fun y=>Q.length-y.1) (fun y restR=>(21,I6 (y.1:Int))::restR) (fun y restS=>DC y.2 EE ((Q.take y.1).map Hc) 104::Dh (g4 4) [I6 (r:Int),I6 (c:Int),CW y.2] 79::restS) (ρc:=[(2,_),(4,_),(19,_),(20,_)]) (σc:=[_]) (0,.slice none 0 0) (by exact A7 _) (To.pick (fun _=>E5 21 2 4 19 20 rfl) (fun _=> .sub 2 rfl (FA)<|.sub 1 rfl (fun _ _ h=>h)<|.k 0 rfl<|.nil) (ks:=[2,1,0]) rfl) (fun y hI=>?_)
 obtain⟨k,sv⟩:=y
 try simp only at hI
 show J _ _ ((21,I6 (k:Int))::_) (DC sv EE ((Q.take k).map Hc) 104::Dh (g4 4) [I6 (r:Int),I6 (c:Int),CW sv] 79::_) _ _
 have hzl:=Ug (Q:=Q) (k:=k) hI
 refine zV (.n (xw rfl)<|.nil) rfl fun g6=>nx (E6 2 4 19 20 21 22 rfl) (R3 0 1 2 rfl)<|Dd<|zh rfl (fun h1=>?_) (fun h1=>?_)<;>try simp only[CT,Z]at h1
 ·have hfk:=ak hk (show k<Q.length by omega)
  refine yE<|Dd<|zT<|zV (.n (xx 0 Dl rfl (by omega) (by omega))<|.n (xy Fp rfl)<|.z rfl) rfl fun g7=>nx (E6 2 4 6 19 20 21 rfl) (R3 0 1 2 rfl)<|zC<|(zG [[],[0],[],[2],[2,3],[0,1,2,3,4],[0,1,2,3,4,5],[0,1,2,3,4,5,6]] (.n (xe KX rfl)<|.r 1 (xf 1 Zp rfl zJ rfl)<|.m rfl<|.n (zP (Yz hfk) (A1 rfl))<|.n (xC Sr GK rfl (.cons rfl (.t rfl) yL rfl (yU rfl (A8 rfl)) .nil))<|.w 0 (EC (mk:=EE) 0 Sr GK rfl (.t rfl) (.t rfl) rfl (by omega) (by omega))<|.n (xe KX rfl)<|.w 1 (EJ 1 (.t rfl) rfl a0u rfl rfl)<|.nil) (fun _=>Di) rfl fun g8=>nx (E5 2 4 19 20 21 rfl) (R3 0 1 2 rfl) ?_)
  refine zR<|zC<|(zG [] (.n (xo rfl (wo (by omega)))<|.m rfl<|.nil) ff rfl fun g9=>nx (E5 2 4 19 20 21 rfl) (R3 0 1 2 rfl) ?_)
  exact yW (k+1,(g8 30)) (by show k+1≤Q.length;omega) (by show Q.length-(_+1)<_;omega) (To.pick (fun _=>E5 21 2 4 19 20 rfl) (fun _=> .sub 0 rfl (yQ (by rw[ZE (by omega)]))<|.sub 1 rfl (fun _ _ h=>h)<|.k 2 rfl<|.nil) (ks:=[0,1,2]) rfl)
 refine D6<|zE<|zE<|zS<|zW (.r 1 (xc 1 KP rfl zJ rfl)<|.w 2 (xn 2 rfl yL nP rfl)<|.nil) rfl fun g10=>nx (E1 2 rfl) (R2 0 2 rfl)<|De<|D5 (To.res 0 (r':=DC sv EE (Q.map Hc) 104) rfl (yQ (by rw[AN (show Q.length≤k by omega)])) rfl)<|HD (u:=sv) 0 rfl rfl (.ag 1 (.t rfl) KP rfl rfl rfl) (OL rfl)<|zL
theorem aG{z:Int}:Ct prog 21 [CW .nilIface,I6 z] (I6 z):=by
 refine Ct.of func21 rfl (by kernel_rfl) rfl fun c0=>zV (.b rfl<|.nil) rfl fun g1=>CY (E3 0 1 4 rfl)<|Dd<|zV (.m rfl<|.nil) rfl fun g2=>CY (E4 0 1 4 7 rfl)<|zC<|zT<|zV (.n (lu underlying20 (.t rfl))<|.nil) rfl fun g3=>CY (E5 0 1 4 7 8 rfl)<|zC<|zh rfl (fun h1=>?_) (fun h1=>?_)<;>have h1':=h1<;>try simp only[CT,Z]at h1
 ·refine zV (.z rfl) rfl fun g4=>CY (E1 1 rfl)<|zW (.m rfl<|.z rfl) rfl fun g5=>CY (E1 4 rfl)<|De<|yP<|zD<|DO rfl<|zL
 cases h1'
theorem gh{u:Value}{z:Int}:gQ prog 103 [DW u 0] (Dh u [I6 z] 29) (Dh u [I6 z] 29):=by
 refine gQ.ofRec func103 rfl (by kernel_rfl) Di rfl fun c0 ob hr0=>(gX [[],[],[0,1],[0,1,2]] (.n (zA (.k rfl))<|.r 0 (xf 0 UO rfl zJ rfl)<|.n (zP (aG) (A2 rfl))<|.w 0 (xn 0 rfl D7 gG rfl)<|.nil) rfl fun g1=>CZ 0 (E0) rfl ?_)
 refine IU<|Db 0 hr0 (CU) rfl (.nil) (zM zL ?_)
 exact HS
theorem eH{u:Value}{z:Int}:gQ prog 20 [DW u 0] (Dh u [I6 z] 29) (Dh u [I6 z] 29):=by
 refine gQ.ofRec func20 rfl (by kernel_rfl) Di rfl fun c0 ob hr0=>(gX [[],[],[0,1],[0,1,2]] (.n (zA (.k rfl))<|.r 0 (xf 0 UO rfl zJ rfl)<|.n (zP (aG) (A2 rfl))<|.w 0 (xn 0 rfl D7 gG rfl)<|.nil) rfl fun g1=>CZ 0 (E0) rfl ?_)
 refine IU<|Db 0 hr0 (CU) rfl (.nil) (zM zL ?_)
 exact HS
theorem SR{r c:Nat}{Q:List Nat}(hk:Gs (r:Int) (c:Int) Q=0):Ct prog 22 [EY (r:Int) (c:Int) Q] (DL [I6 (r:Int),I6 (c:Int),I2 EE (Q.map Hc)]):=(VO hk).last fun u=>T4
theorem Xx{n:Nat}{Q:List Nat}(hk:Gs (n:Int) (n:Int) Q=0)(hs:Gw (n:Int) (n:Int) Q=true):Ct prog 57 [EY (n:Int) (n:Int) Q] (EP [I6 (GY (QM n Q) n),I6 0]):=by
 refine Ct.ofD func57 rfl (by kernel_rfl) rfl fun c0=>Qz 0 rfl fun hlt0=>?_
 have hQ:=WC hk hlt0
 refine yN (To.emps 2)<|zV (.w 0 (xa 0 rfl yL rfl)<|.b rfl<|.w 1 (xj 1 ou rfl)<|.nil) rfl fun g1=>nx (E2 1 3 rfl) (R2 0 1 rfl)<|zC<|zF (Sg ?_)
 refine Ha 1 rfl<|(GQ (.n (Fh (ps:=[_]) (A1 rfl))<|.nil) rfl fun g2=>nx (E3 1 3 4 rfl) (R2 0 1 rfl) ?_)
 refine K7<|Qx (.t rfl) fun dv0=>zC<|DS<|zF (Sg ?_)
 refine Ha 2 rfl<|(GQ (.r 0 (xc 0 Dw rfl zJ rfl)<|.w 2 (HO 2 (VO hk) (A1 rfl) rfl)<|.nil) rfl fun g3=>nx (E2 3 6 rfl) (R2 1 2 rfl) ?_)
 refine K7<|(GQ (.w 1 (CV 1 (jx hQ.ql hQ.n12 (fun r j hr hj=>No hQ.len hr hj) hQ.sz45 (ml hs)) (A1 rfl) rfl)<|.a rfl<|.w 0 (yM 0 (.t rfl) (.k rfl) D7 gG rfl rfl rfl)<|.nil) rfl fun g4=>CZ 0 (E2 2 3 rfl) rfl ?_)
 refine De<|Yb<|Tz 0 0 (gh) rfl rfl rfl<|PX (.cons (.tmp (.t rfl))<|.cons (.sc 0 (.t rfl) UO rfl rfl)<|.nil) (zM (yD zL) ?_)
 exact zL
theorem Rx{n:Nat}{A B:List Nat}(ha:Gs (n:Int) (n:Int) A=0)(hb:Gs (n:Int) (n:Int) B=0)(sa:Gw (n:Int) (n:Int) A=true)(sb:Gw (n:Int) (n:Int) B=true):Ct prog 10 [EY (n:Int) (n:Int) A,EY (n:Int) (n:Int) B] (EP [CW (.bool (CT .neq (GY (DM n A B) n) 1)),I6 0]):=by
 refine Ct.ofD func10 rfl (by kernel_rfl) rfl fun c0=>Qz 0 rfl fun hlt0=>?_
 have hA:=WC ha hlt0
 refine Qz 1 rfl fun hlt1=>?_
 have hB:=WC hb hlt1
 refine yN (To.emps 3)<|zV (.w 0 (xa 0 rfl yL rfl)<|.w 1 (xa 1 rfl yL rfl)<|.b rfl<|.w 2 (xj 2 ou rfl)<|.nil) rfl fun g1=>nx (E3 2 3 5 rfl) (R3 0 1 2 rfl)<|zC<|zF (Sg ?_)
 refine Ha 1 rfl<|(GQ (.n (Fh (ps:=[_]) (A1 rfl))<|.nil) rfl fun g2=>nx (E4 2 3 5 6 rfl) (R3 0 1 2 rfl) ?_)
 refine K7<|Qx (.t rfl) fun dv0=>zC<|zF (zG [[],[0],[],[0,1,2],[0,1,2,3],[0,1,2,3,4],[0,1,2,3,4,5]] (.r 0 (xc 0 Dw rfl zJ rfl)<|.n (zP (SR ha) (A1 rfl))<|.r 1 (xc 1 Dw rfl zJ rfl)<|.n (zP (SR hb) (A1 rfl))<|.n (zP (ju hA.ql hB.ql hA.n12 hA.szl hB.szl (bT hA sa) (bT hB sb) (yf hA hB) (yg hA hB)) (A2 rfl))<|.a rfl<|.w 2 (yM 2 (.t rfl) (.k rfl) D7 gG rfl rfl rfl)<|.nil) (fun _=>Di) rfl fun g3=>CZ 2 (E2 4 5 rfl) rfl ?_)
 refine De<|Yb<|Tz 0 0 (eH) rfl rfl rfl<|PX (.cons (.tmp (.t rfl))<|.cons (.sc 0 (.t rfl) UO rfl rfl)<|.nil) (zM (yD zL) ?_)
 exact zL
theorem uo{x:Nat}:Ct prog 151 [Dm x] (Dm (Kc x)):=by
 refine Ct.of func151 rfl (by kernel_rfl) rfl fun c0=>zV (.n (zB (Lk.fk rfl (by decide+kernel)))<|.nil) rfl fun g1=>CY (E1 0 rfl)<|zW (.m rfl<|.n (Ik SJ (.t rfl))<|.n (qZ (.t rfl))<|.n (WT tj (.t rfl))<|.z rfl) rfl fun g2=>CY (E1 2 rfl)<|De<|DO rfl<|zL
theorem jG{x:Nat}:Ct prog 111 [Dm x,I6 0] (CW (.bool (Gp .gtr (Kc x) Vi))):=by
 refine Ct.of func111 rfl (by kernel_rfl) rfl fun c0=>zV (.b rfl<|.nil) rfl fun g1=>CY (E2 0 1 rfl)<|Dd<|zV (.m rfl<|.n (xd rfl)<|.nil) rfl fun g2=>CY (E3 0 1 6 rfl)<|zC<|zh rfl (fun h1=>?_) (fun h1=>?_)<;>have h1':=h1<;>try simp only[CT,Z]at h1
 ·refine(zG [] (.m rfl<|.n (zP (uo) (A1 rfl))<|.z rfl) ff rfl fun g3=>CY (E1 0 rfl) ?_)
  refine zW (.m rfl<|.n (Hk (by simp) (.t rfl) (Lk.fk rfl (by decide+kernel)) rfl)<|.z rfl) rfl fun g4=>CY (E1 4 rfl)<|De<|DO rfl<|zL
 exact absurd h1' (by decide)
theorem Hq{u:Value}{b:Bool}{cs:List SP}{T:TypeId}{x:Nat}:En prog 67 [DW u 0,Dm x] (Dh u (CW (.bool (b))::cs) T) (Dm x) (Dh u (CW (.bool (b|| !DF x))::cs) T):=by
 refine En.of func67 rfl (by kernel_rfl) rfl (CU) fun c0 ob hr0=>Yc 1 rfl fun hx1 hx2=>?_
 have he:=qQ hx1
 refine zV (.n (zB (Lk.fk rfl (by decide+kernel)))<|.nil) rfl fun g1=>CZ 0 (E2 0 1 rfl) rfl<|Dd<|zV (.mm rfl<|.n (Hk (by simp) (.t rfl) (.t rfl) rfl)<|.m rfl<|.n (gu rfl (fun hC=>(xB rfl)))<|.n (gu rfl (fun hC=>(zP (jG) ⟨(.w rfl hC),(.k rfl),trivial⟩)))<|.n (Fk (.t rfl) (fun h2=>(.w rfl h2)))<|.nil) rfl fun g2=>CZ 0 (E3 0 1 11 rfl) rfl<|zC<|zh rfl (fun h1=>?_) (fun h1=>?_)<;>have h1':=h1<;>try simp only[CT,Z]at h1
 ·refine(zG [] (.m rfl<|.n (xD rfl)<|.n (xe aH rfl)<|.w 0 (WV 0 (.t rfl) (.k rfl) sF rfl)<|.nil) ff rfl fun g3=>CZ 0 (E1 1 rfl) rfl ?_)
  refine zW (.m rfl<|.z rfl) rfl fun g4=>CZ 0 (E1 4 rfl) rfl<|De<|D5 (To.res 0 (r':=Dh u (CW (.bool (b|| !DF x))::cs) T) rfl (yQ (by rw[←he,h1',Bool.or_true])) rfl)<|Db 0 hr0 (CU) rfl (.cons (.tmp (.t rfl))<|.nil) (zM (yD zL) ?_)
  exact zL
 refine yE<|zW (.m rfl<|.z rfl) rfl fun g5=>CZ 0 (E1 4 rfl) rfl<|De<|D5 (To.res 0 (r':=Dh u (CW (.bool (b|| !DF x))::cs) T) rfl (yQ (by rw[←he,h1',AM])) rfl)<|Db 0 hr0 (CU) rfl (.cons (.tmp (.t rfl))<|.nil) (zM (yD zL) ?_)
 exact zL
theorem Ld{u:Value}{b:Bool}{cs:List SP}{T:TypeId}{x y:Nat}:En prog 109 [DW u 0,Dm x,Dm y] (Dh u (CW (.bool (b))::cs) T) (Dm (Ft x y)) (Dh u (CW (.bool (b|| !DF (Ft x y)))::cs) T):=by
 refine En.of func109 rfl (by kernel_rfl) rfl (CU) fun c0 ob hr0=>zV (.n (zB (Lk.fk rfl (by decide+kernel)))<|.nil) rfl fun g1=>CZ 0 (E3 0 1 2 rfl) rfl<|zW (.mm rfl<|.m rfl<|.n (xG (by simp) rfl)<|.w 0 (CV 0 (Hq) (A2 rfl) rfl)<|.z rfl) rfl fun g2=>CZ 0 (E1 6 rfl) rfl<|De<|Db 0 hr0 (CU) rfl (.cons (.tmp (.t rfl))<|.nil) (zM (yD zL) ?_)
 exact zL
theorem S4{u:Value}{b:Bool}{cs:List SP}{T:TypeId}:En prog 74 [DW u 0] (Dh u (CW (.bool (b))::cs) T) (CW (.bool b)) (Dh u (CW (.bool (b))::cs) T):=by
 refine En.of func74 rfl (by kernel_rfl) rfl (CU) fun c0 ob hr0=>zV (.b rfl<|.nil) rfl fun g1=>CZ 0 (E1 0 rfl) rfl<|zW (.m rfl<|.n (xD rfl)<|.n (xe aH rfl)<|.r 0 (xf 0 Kg rfl zJ rfl)<|.z rfl) rfl fun g2=>CZ 0 (E1 2 rfl) rfl<|De<|Db 0 hr0 (CU) rfl (.cons (.tmp (.t rfl))<|.nil) (zM (yD zL) ?_)
 exact zL
theorem IB{u:Value}{b:Bool}{cs:List SP}{T:TypeId}{xs ys:List Nat}(hl:xs.length≤ys.length):En prog 63 [DW u 0,Dp xs,Dp ys] (Dh u (CW (.bool (b))::cs) T) (Dm (NJ xs ys)) (Dh u (CW (.bool (b||Ln xs ys))::cs) T):=by
 refine En.of func63 rfl (by kernel_rfl) rfl (CU) fun c0 ob hr0=>ER 1 rfl fun hlen=>zV (.n (zB (Lk.fk rfl (by decide+kernel)))<|.nil) rfl fun g1=>CZ 0 (E3 0 1 2 rfl) rfl<|zW (.n (zB (Lk.fk rfl (by decide+kernel)))<|.nil) rfl fun g2=>CZ 0 (E4 0 1 2 7 rfl) rfl<|Dd<|zV (.m rfl<|.n (xv Dl rfl)<|.n (zA (.k rfl))<|.nil) rfl fun g3=>CZ 0 (E6 0 2 7 10 11 12 rfl) rfl<|zC<|zT<|D4 (α:=Nat) (fun k=>k≤xs.length) (fun k=>xs.length-k) (fun k restR=>(7,Dm (VL xs ys k))::(12,I6 (k:Int))::restR) (fun k restS=>Dh u (CW (.bool (b||jc xs ys k))::cs) T::restS) (ρc:=[(0,_),(2,_),(10,_),(11,_)]) (σc:=[]) 0 (by exact A7 _) (To.pick (fun _=>E6 7 12 0 2 10 11 rfl) (fun _=> .sub 0 rfl (yQ (by rw[show jc xs ys 0=false from rfl,AM]))<|.nil) (ks:=[0]) rfl) (fun k hI=>?_)
 refine zV (.n (xw rfl)<|.nil) rfl fun g4=>CZ 0 (E7 0 2 7 10 11 12 13 rfl) rfl<|Dd<|zh rfl (fun h1=>?_) (fun h1=>?_)<;>try simp only[CT,Z]at h1
 ·refine yE<|Dd<|zT<|zV (.m rfl<|.n (xx 0 Dl rfl (by omega) (by omega))<|.n (xy Fp rfl)<|.a rfl<|.z rfl) rfl fun g5=>CZ 0 (E8 0 2 7 8 9 10 11 12 rfl) rfl<|zC<|(zG [] (.mm rfl<|.mm rfl<|.mm rfl<|.n (xx 0 Dl rfl (by omega) (by omega))<|.n (xy Fp rfl)<|.w 0 (CV 0 (Ld) (A3 rfl) rfl)<|.n (xG (by simp) rfl)<|.w 0 (CV 0 (Hq) (A2 rfl) rfl)<|.z rfl) ff rfl fun g6=>CZ 0 (E6 0 2 7 10 11 12 rfl) rfl ?_)
  refine zR<|zC<|(zG [] (.n (xo rfl (wo (by omega)))<|.m rfl<|.nil) ff rfl fun g7=>CZ 0 (E6 0 2 7 10 11 12 rfl) rfl ?_)
  exact yW (k+1) (by omega) (by omega) (To.pick (fun _=>E6 7 12 0 2 10 11 rfl) (fun _=> .sub 0 rfl (yQ (by simp only[jc,AA];rfl))<|.nil) (ks:=[0]) rfl)
 refine D6<|zE<|zE<|zS<|zW (.m rfl<|.z rfl) rfl fun g8=>CZ 0 (E1 6 rfl) rfl<|De<|D5 (To.res 0 (r':=Dh u (CW (.bool (b||Ln xs ys))::cs) T) rfl (yQ (by rw[show k=xs.length by omega];rfl)) rfl)<|Db 0 hr0 (CU) rfl (.cons (.tmp (.t rfl))<|.nil) (zM (yD zL) ?_)
 exact bY (by rw[show k=xs.length by omega];rfl)
theorem JV{r c i:Int}{xs:List Nat}(hg:Fc r c xs)(i0:0≤i)(i1:i<r):Ct prog 36 [EY r c xs,I6 i] (Dp (G6 c xs i)):=by
 refine Ct.of func36 rfl (by kernel_rfl) rfl fun c0=>?_
 have hq:=hg.row i0 i1
 obtain⟨hs1,hs2,hs3,hs4⟩:=hg.1
 refine DS<|zV (.w 0 (xa 0 rfl yL rfl)<|.b rfl<|.nil) rfl fun g1=>CZ 0 (E2 1 2 rfl) rfl<|zW (.n (xe Ek rfl)<|.r 0 (xf 0 Eo rfl zJ rfl)<|.m rfl<|.n (xe EG rfl)<|.r 0 (xf 0 Ez rfl zJ rfl)<|.n (xu rfl (wo (by omega)))<|.m rfl<|.n (xo rfl (wo (by omega)))<|.n (xe EG rfl)<|.r 0 (xf 0 Ez rfl zJ rfl)<|.n (xu rfl (wo (by omega)))<|.n (Ni Dl (.t rfl) (.t rfl) (.t rfl) (by omega) (by omega) (by omega))<|.z rfl) rfl fun g2=>CY (E1 4 rfl)<|De<|DO rfl<|L8 (by rw[Nq hs3 hg.2 i0 i1])
theorem UV{r c i:Int}{xs:List Nat}(hg:Fc r c xs)(i0:0≤i)(i1:i<r):Ct prog 117 [EY r c xs,I6 i] (Dp (G6 c xs i)):=by
 refine Ct.of func117 rfl (by kernel_rfl) rfl fun c0=>?_
 have hq:=hg.row i0 i1
 obtain⟨hs1,hs2,hs3,hs4⟩:=hg.1
 refine DS<|zV (.w 0 (xa 0 rfl yL rfl)<|.b rfl<|.nil) rfl fun g1=>CZ 0 (E2 1 2 rfl) rfl<|zW (.n (xe Ek rfl)<|.r 0 (xf 0 Eo rfl zJ rfl)<|.m rfl<|.n (xe EG rfl)<|.r 0 (xf 0 Ez rfl zJ rfl)<|.n (xu rfl (wo (by omega)))<|.m rfl<|.n (xo rfl (wo (by omega)))<|.n (xe EG rfl)<|.r 0 (xf 0 Ez rfl zJ rfl)<|.n (xu rfl (wo (by omega)))<|.n (Ni Dl (.t rfl) (.t rfl) (.t rfl) (by omega) (by omega) (by omega))<|.z rfl) rfl fun g2=>CY (E1 4 rfl)<|De<|DO rfl<|L8 (by rw[Nq hs3 hg.2 i0 i1])
theorem KY{x:Nat}:Ct prog 27 [Mv 1 1 [Dm x]] (CW (.bool (DF x))):=(by have h:=Jj (xs:=[x]);rw[nn]at h;exact h)
theorem qi{r c j:Int}{xs:List Nat}(hg:Fc r c xs)(i0:0≤j)(i1:j<c):Ct prog 110 [EY r c xs,I6 (j)] (Dp (Gn r c xs j)):=by
 refine Ct.of func110 rfl (by kernel_rfl) rfl fun c0=>?_
 have hs:=hg.1
 obtain⟨hs1,hs2,hs3,hs4⟩:=hg.1
 have hln:=hg.2
 have hrp:(List.replicate r.toNat (0:Nat)).length=r.toNat:=Am
 refine DS<|zV (.w 0 (xa 0 rfl yL rfl)<|.b rfl<|.nil) rfl fun g1=>CZ 0 (E2 1 2 rfl) rfl<|zC<|DS<|zV (.n (xe Ev rfl)<|.r 0 (xf 0 Ez rfl zJ rfl)<|.w 1 (DI (mk:=Dm) 0 1 Dl EL rfl (fun _=>FZ) (.t rfl) (.t rfl) (by omega) (by omega) (by omega) (by omega) rfl)<|.n (yX rfl rfl)<|.nil) rfl fun g2=>nx (E3 1 2 5 rfl) (R2 0 1 rfl)<|Dd<|zV (.m rfl<|.r 1 (EZ 1 Dl (.t rfl) rfl)<|.n (zA (.k rfl))<|.nil) rfl fun g3=>nx (E5 1 2 5 11 12 rfl) (R2 0 1 rfl)<|zC<|zT<|D4 (α:=Nat) (fun k=>k≤r.toNat) (fun k=>r.toNat-k) (fun k restR=>(12,I6 (k:Int))::restR) (fun k restS=>DC (g2 9) Dm (VY (fun(i:Nat)=>mat c xs i j) r.toNat k) 53::restS) (ρc:=[(1,_),(2,_),(5,_),(11,_)]) (σc:=[_]) 0 (by exact A7 _) (To.pick (fun _=>E5 12 1 2 5 11 rfl) (fun _=> .sub 1 rfl (yQ (by rw[Js]))<|.k 0 rfl<|.nil) (ks:=[1,0]) rfl) (fun k hI=>?_)
 have hfl:=Mc (f:=fun(i:Nat)=>mat c xs i j) hI
 refine zV (.n (xw rfl)<|.nil) rfl fun g4=>nx (E6 1 2 5 11 12 13 rfl) (R2 0 1 rfl)<|Dd<|zh rfl (fun h1=>?_) (fun h1=>?_)<;>try simp only[CT,Z]at h1
 ·have hq:=Pl.rng hs (show Pl r c k j from ⟨by omega,by omega,i0,i1⟩)
  refine yE<|Dd<|zT<|zV (.m rfl<|.z rfl) rfl fun g5=>nx (E6 1 2 5 6 11 12 rfl) (R2 0 1 rfl)<|zC<|(zG [] (.mm rfl<|.n (xe Ek rfl)<|.r 1 (xf 1 Eo rfl zJ rfl)<|.m rfl<|.n (xe EG rfl)<|.r 1 (xf 1 Ez rfl zJ rfl)<|.n (xu rfl (wo (by omega)))<|.m rfl<|.n (xq rfl (wo (by omega)))<|.n (xx 0 Dl rfl (by omega) (by omega))<|.n (xy Fp rfl)<|.r 0 (xz 0 Dl rfl (by omega) (by omega))<|.w 0 (xA 0 rfl Dj Lr rfl (by omega))<|.nil) ff rfl fun g6=>nx (E5 1 2 5 11 12 rfl) (R2 0 1 rfl) ?_)
  refine zR<|zC<|(zG [] (.n (xo rfl (wo (by omega)))<|.m rfl<|.nil) ff rfl fun g7=>nx (E5 1 2 5 11 12 rfl) (R2 0 1 rfl) ?_)
  exact yW (k+1) (by omega) (by omega) (To.pick (fun _=>E5 12 1 2 5 11 rfl) (fun _=> .sub 0 rfl (yQ (congrArg (fun l=>DC (g2 9) Dm l 53) (Md (by omega) rfl)))<|.k 1 rfl<|.nil) (ks:=[0,1]) rfl)
 refine D6<|zE<|zE<|zS<|zW (.m rfl<|.z rfl) rfl fun g8=>CZ 0 (E1 4 rfl) rfl<|De<|D5 (To.freeze 0 (fun _ h=>h) rfl Dz rfl)<|zQ (.cons (.tmp (.t rfl))<|.nil) (zM (yD (Ed 0 rfl)) ?_)
 exact L8 (by rw[show k=r.toNat by omega,Kq];rfl)
theorem W9{u:Value}{b:Bool}{cs:List SP}{T:TypeId}{r c c':Int}{xs ys:List Nat}(hg:Fc r c xs)(hg':Fc c c' ys):En prog 64 [DW u 0,EY r c xs,EY c c' ys] (Dh u (CW (.bool (b))::cs) T) (EY r c' (K1 r c xs c' ys)) (Dh u (CW (.bool (b||VU c' (fun i j=>Ln (G6 c xs i) (Gn c c' ys j)) (r.toNat*c'.toNat)))::cs) T):=by
 refine En.of func64 rfl (by kernel_rfl) rfl (CU) fun c0 ob hr0=>?_
 have hs:=hg.1
 obtain⟨hs1,hs2,hs3,hs4⟩:=hg.1
 obtain⟨ht1,ht2,ht3,ht4⟩:=hg'.1
 have hpg:((K1 r c xs c' ys)).length=r.toNat*c'.toNat:=FL _ _ _
 have hsm:KK r c':=⟨hs1,hs2,ht3,ht4⟩
 have hsn:=Ot hsm
 refine yN (To.emps 3)<|zV (.w 1 (xa 1 rfl yL rfl)<|.w 2 (xa 2 rfl yL rfl)<|.w 3 (xj 3 EU rfl)<|.nil) rfl fun g1=>nx (E4 0 4 5 6 rfl) (R4 0 1 2 3 rfl)<|zC<|DS<|zV (.n (xe Ev rfl)<|.r 1 (xf 1 Ez rfl zJ rfl)<|.n (xe EG rfl)<|.r 2 (xf 2 Ez rfl zJ rfl)<|.n (D1 EU rfl Hp (.g D7 rfl (.g D7 rfl .nil)))<|.w 4 (xj 4 EU rfl)<|.w 4 (xm 4 rfl yL FB rfl)<|.nil) rfl fun g2=>nx (E5 0 4 5 6 7 rfl) (R5 0 1 2 3 4 rfl)<|Dd<|zV (.n (xe Ev rfl)<|.r 1 (xf 1 Ez rfl zJ rfl)<|.n (zA (.k rfl))<|.nil) rfl fun g3=>nx (E7 0 4 5 6 7 16 17 rfl) (R5 0 1 2 3 4 rfl)<|zC<|zT<|DS<|D4 (α:=Nat×Value) (fun x=>x.1≤r.toNat) (fun x=>r.toNat-x.1) (fun x restR=>(17,I6 (x.1:Int))::restR) (fun x restS=>Dh u (CW (.bool (b||VU c' (fun i j=>Ln (G6 c xs i) (Gn c c' ys j)) (x.1*c'.toNat+0)))::cs) T::DC x.2 Dm ((K1 r c xs c' ys).take (x.1*c'.toNat+0)) 53::Dh (g2 7) [I6 r,I6 c',CW x.2] 34::restS) (ρc:=[(0,_),(4,_),(5,_),(6,_),(7,_),(16,_)]) (σc:=[_,_,_]) (0,.slice none 0 0) (by exact A7 _) (To.pick (fun _=>E7 17 0 4 5 6 7 16 rfl) (fun _=> .sub 0 rfl (yQ (by rw[BR];unfold VU;rw[HY,AM]))<|.sub 5 rfl (fun c0 ob h=>by rw[BR,Bi];exact FA c0 ob h)<|.sub 4 rfl (fun _ _ h=>h)<|.k 1 rfl<|.k 2 rfl<|.k 3 rfl<|.nil) (ks:=[0,5,4,1,2,3]) rfl) (fun x hI=>?_)
 obtain⟨k,sv⟩:=x
 try simp only at hI
 show J _ _ ((17,I6 (k:Int))::_) (Dh u (CW (.bool (b||VU c' (fun i j=>Ln (G6 c xs i) (Gn c c' ys j)) (k*c'.toNat+0)))::cs) T::DC sv Dm ((K1 r c xs c' ys).take (k*c'.toNat+0)) 53::Dh (g2 7) [I6 r,I6 c',CW sv] 34::_) _ _
 refine zV (.n (xw rfl)<|.nil) rfl fun g4=>nx (E8 0 4 5 6 7 16 17 18 rfl) (R6 0 1 2 3 4 5 rfl)<|Dd<|zh rfl (fun h1=>?_) (fun h1=>?_)<;>try simp only[CT,Z]at h1
 ·refine yE<|Dd<|zT<|zV (.m rfl<|.z rfl) rfl fun g5=>nx (E8 0 4 5 6 7 8 16 17 rfl) (R6 0 1 2 3 4 5 rfl)<|zW (.n (xe EG rfl)<|.r 4 (xf 4 Ez rfl zJ rfl)<|.n (zA (.k rfl))<|.nil) rfl fun g6=>nx (I4 0 4 5 6 7 8 16 17 21 22 rfl) (R6 0 1 2 3 4 5 rfl)<|zC<|zT<|D4 (α:=Nat×Value) (fun y=>y.1≤c'.toNat) (fun y=>c'.toNat-y.1) (fun y restR=>(22,I6 (y.1:Int))::restR) (fun y restS=>Dh u (CW (.bool (b||VU c' (fun i j=>Ln (G6 c xs i) (Gn c c' ys j)) (k*c'.toNat+y.1)))::cs) T::DC y.2 Dm ((K1 r c xs c' ys).take (k*c'.toNat+y.1)) 53::Dh (g2 7) [I6 r,I6 c',CW y.2] 34::restS) (ρc:=[(0,_),(4,_),(5,_),(6,_),(7,_),(8,_),(16,_),(17,_),(21,_)]) (σc:=[_,_,_]) (0,sv) (by exact A7 _) (Es (fun _=>I4 22 0 4 5 6 7 8 16 17 21 rfl) fun _=>R6 0 1 2 3 4 5 rfl) (fun y hI=>?_)
  obtain⟨m,tv⟩:=y
  try simp only at hI
  show J _ _ ((22,I6 (m:Int))::_) (Dh u (CW (.bool (b||VU c' (fun i j=>Ln (G6 c xs i) (Gn c c' ys j)) (k*c'.toNat+m)))::cs) T::DC tv Dm ((K1 r c xs c' ys).take (k*c'.toNat+m)) 53::Dh (g2 7) [I6 r,I6 c',CW tv] 34::_) _ _
  have hzl:((K1 r c xs c' ys).take (k*c'.toNat+m)).length≤144:=by rw[A9];omega
  refine zV (.n (xw rfl)<|.nil) rfl fun g7=>nx (Ec 0 4 5 6 7 8 16 17 21 22 rfl<|E1 23 rfl) (R6 0 1 2 3 4 5 rfl)<|Dd<|zh rfl (fun h2=>?_) (fun h2=>?_)<;>try simp only[CT,Z]at h2
  ·refine yE<|Dd<|zT<|zV (.m rfl<|.z rfl) rfl fun g8=>nx (Ec 0 4 5 6 7 8 9 16 17 21 rfl<|E1 22 rfl) (R6 0 1 2 3 4 5 rfl)<|zC<|(zG [[],[0],[],[],[],[3,4],[],[],[3,4,5,6,7],[2,3,4,5,6,7,8],[2,3,4,5,6,7,8,9],[0,1,2,3,4,5,6,7,8,9,10],[0,1,2,3,4,5,6,7,8,9,10,11],[0,1,2,3,4,5,6,7,8,9,10,11,12]] (.n (xe Ek rfl)<|.r 2 (xf 2 Eo rfl zJ rfl)<|.m rfl<|.r 3 (xc 3 Dw rfl zJ rfl)<|.m rfl<|.n (zP (JV hg (by omega) (by omega)) (A2 rfl))<|.r 4 (xc 4 Dw rfl zJ rfl)<|.m rfl<|.n (zP (qi hg' (by omega) (by omega)) (A2 rfl))<|.w 0 (CV 0 (IB (by rw[Fv,Fj];omega)) (A3 rfl) rfl)<|.n (xC Dl EL rfl (.g Dj rfl .nil))<|.w 1 (EC 1 Dl EL rfl (.t rfl) (.t rfl) rfl (by omega) (by omega))<|.n (xe Ek rfl)<|.w 2 (EJ 2 (.t rfl) rfl PU rfl rfl)<|.nil) (fun _=>Di) rfl fun g9=>nx (I4 0 4 5 6 7 8 16 17 21 22 rfl) (R6 0 1 2 3 4 5 rfl) ?_)
   refine zR<|zC<|(zG [] (.n (xo rfl (wo (by omega)))<|.m rfl<|.nil) ff rfl fun g10=>nx (I4 0 4 5 6 7 8 16 17 21 22 rfl) (R6 0 1 2 3 4 5 rfl) ?_)
   exact yW (m+1,(g9 36)) (by exact(show m+1≤c'.toNat by omega)) (by show c'.toNat-(_+1)<_;omega) (To.pick (fun _=>I4 22 0 4 5 6 7 8 16 17 21 rfl) (fun _=> .sub 0 rfl (yQ (by rw[QZ (by omega),AA]))<|.sub 1 rfl (yQ (by rw[show((K1 r c xs c' ys)).take (k*c'.toNat+(m+1))=_ from Mw (by omega) (by omega)];rfl))<|.sub 2 rfl (fun _ _ h=>h)<|.k 3 rfl<|.k 4 rfl<|.k 5 rfl<|.nil) (ks:=[0,1,2,3,4,5]) rfl)
  refine D6<|zE<|zE<|zS<|zR<|zC<|(zG [] (.n (xo rfl (wo (by omega)))<|.m rfl<|.nil) ff rfl fun g11=>nx (E7 0 4 5 6 7 16 17 rfl) (R6 0 1 2 3 4 5 rfl) ?_)
  exact yW (k+1,tv) (by exact(show k+1≤r.toNat by omega)) (by show r.toNat-(_+1)<_;omega) (To.pick (fun _=>E7 17 0 4 5 6 7 16 rfl) (fun _=> .sub 0 rfl (yQ (by rw[show(k+1)*c'.toNat+0=k*c'.toNat+m by rw[AO,B5];omega]))<|.sub 1 rfl (yQ (by rw[show(k+1)*c'.toNat+0=k*c'.toNat+m by rw[AO,B5];omega]))<|.sub 2 rfl (fun _ _ h=>h)<|.k 3 rfl<|.k 4 rfl<|.k 5 rfl<|.nil) (ks:=[0,1,2,3,4,5]) rfl)
 refine D6<|zE<|zE<|zS<|zW (.r 2 (xc 2 Dw rfl zJ rfl)<|.w 5 (xn 5 rfl yL FB rfl)<|.nil) rfl fun g12=>nx (E1 6 rfl) (R3 0 1 5 rfl)<|De<|D5 (To.res 0 (r':=Dh u (CW (.bool (b||VU c' (fun i j=>Ln (G6 c xs i) (Gn c c' ys j)) (r.toNat*c'.toNat)))::cs) T) rfl (yQ (by rw[show k=r.toNat by omega,Bx])) rfl)<|D5 (To.freezeM 1 0 hr0 (CU) rfl rfl rfl Dz rfl)<|Db 0 hr0 (CU) rfl (.cons (.ag 2 (.t rfl) Dw rfl rfl rfl)<|.nil) (zM (yD (Dx (.cons zL<|.cons zL<|.cons (Ed 0 rfl)<|.nil))) ?_)
 exact L8 (by rw[show k=r.toNat by omega,AN (by rw[hpg];omega)];rfl)
theorem jN{r c n:Int}{xs:List Nat}:Ct prog 62 [EY r c xs,I6 (n)] (I6 (oE r c xs n)):=by
 refine Ct.of func62 rfl (by kernel_rfl) rfl fun c0=>DS<|zV (.w 0 (xa 0 rfl yL rfl)<|.b rfl<|.nil) rfl fun g1=>CZ 0 (E2 1 2 rfl) rfl<|Dd<|zV (.r 0 (xc 0 Dw rfl zJ rfl)<|.n (zP (IZ) (A1 rfl))<|.z rfl) rfl fun g2=>CZ 0 (E3 1 2 5 rfl) rfl<|zW (.m rfl<|.n (xd rfl)<|.nil) rfl fun g3=>CZ 0 (E4 1 2 5 9 rfl) rfl<|zC<|zh rfl (fun h1=>?_) (fun h1=>?_)<;>try simp only[CT,Z]at h1
 ·refine zV (.m rfl<|.z rfl) rfl fun g4=>CY (E1 4 rfl)<|De<|zD<|DO rfl<|Dc (by unfold oE;rw[if_pos h1])
 refine yE<|Dd<|zV (.n (xe Ev rfl)<|.r 0 (xf 0 Ez rfl zJ rfl)<|.n (xe EG rfl)<|.r 0 (xf 0 Ez rfl zJ rfl)<|.n (xw rfl)<|.m rfl<|.n (gu rfl (fun hC=>(xe Ev rfl)))<|.r 0 (gu rfl (fun hC=>(zN 0 Ez (.w rfl hC) rfl zJ rfl)))<|.n (gu rfl (fun hC=>(xB rfl)))<|.n (gu rfl (fun hC=>(oc rfl (.w rfl hC) (.w rfl hC) rfl)))<|.n (Fk (.t rfl) (fun h2=>(.w rfl h2)))<|.nil) rfl fun g5=>CY (E1 21 rfl)<|zC<|zh rfl (fun h2=>?_) (fun h2=>?_)<;>try simp only[CT,Z]at h2
 ·refine zV (.b rfl<|.nil) rfl fun g6=>CY (E1 4 rfl)<|De<|zD<|DO rfl<|Dc (by unfold oE;rw[if_neg (by omega),if_pos h2])
 refine yE<|zW (.b rfl<|.nil) rfl fun g7=>CY (E1 4 rfl)<|De<|DO rfl<|Dc (by unfold oE;rw[if_neg (by omega),if_neg (by omega)])
theorem Wa{n:Int}{h:List Nat}{r:Nat}:Ct prog 152 [I6 (n),Dp h,Dm r] (I6 (ML h n r)):=by
 refine Ct.of func152 rfl (by kernel_rfl) rfl fun c0=>zV (.b rfl<|.nil) rfl fun g1=>CY (E3 0 1 2 rfl)<|Dd<|zT<|zV (.m rfl<|.n (xv Dl rfl)<|.m rfl<|.n (xw rfl)<|.z rfl) rfl fun g2=>CY (E3 1 2 7 rfl)<|zC<|zh rfl (fun h1=>?_) (fun h1=>?_)<;>try simp only[CT,Z]at h1
 ·refine zV (.b rfl<|.nil) rfl fun g3=>CY (E1 6 rfl)<|De<|yP<|zD<|DO rfl<|Dc (by unfold ML;rw[if_pos h1])
 refine zF<|zV (.m rfl<|.n (zP (Jj) (A1 rfl))<|.n (EI (.t rfl))<|.z rfl) rfl fun g4=>CY (E2 2 12 rfl)<|zC<|zh rfl (fun h2=>?_) (fun h2=>?_)<;>have h2':=h2<;>try simp only[CT,Z]at h2
 ·refine yE<|zC<|zh rfl (fun h3=>?_) (fun h3=>?_)<;>have h3':=h3<;>try simp only[CT,Z]at h3
  ·refine zV (.b rfl<|.nil) rfl fun g5=>CY (E1 6 rfl)<|De<|yP<|zD<|DO rfl<|Dc (by unfold ML;rw[if_neg (by omega),if_pos (by simpa using h2')])
  exact Bool.noConfusion (h2'.symm.trans h3')
 refine(zG [] (.m rfl<|.n (xC Dl EL rfl (.g Dj rfl .nil))<|.n (zP (KY) (A1 rfl))<|.n (EI (.t rfl))<|.z rfl) ff rfl fun g6=>CY (E2 2 12 rfl) ?_)
 refine zC<|zh rfl (fun h4=>?_) (fun h4=>?_)<;>have h4':=h4<;>try simp only[CT,Z]at h4
 ·refine zV (.b rfl<|.nil) rfl fun g7=>CY (E1 6 rfl)<|De<|yP<|zD<|DO rfl<|Dc (by unfold ML;rw[if_neg (by omega),if_neg (by simpa using h2'),if_pos (by simpa using h4')])
 refine zV (.m rfl<|.n (Hk (by simp) (.t rfl) (Lk.fk rfl (by decide+kernel)) rfl)<|.z rfl) rfl fun g8=>CY (E1 20 rfl)<|zC<|zh rfl (fun h5=>?_) (fun h5=>?_)<;>have h5':=h5<;>try simp only[CT,Z]at h5
 ·refine zV (.b rfl<|.nil) rfl fun g9=>CY (E1 6 rfl)<|De<|yP<|zD<|DO rfl<|Dc (by unfold ML;rw[if_neg (by omega),if_neg (by simpa using h2'),if_neg (by simpa using h4'),if_pos h5'])
 refine yE<|zR<|zW (.b rfl<|.nil) rfl fun g10=>CY (E1 6 rfl)<|De<|DO rfl<|Dc (by unfold ML;rw[if_neg (by omega),if_neg (by simpa using h2'),if_neg (by simpa using h4'),if_neg (by simpa using h5')])
theorem ZB{r c:Int}{xs:List Nat}:Ct prog 28 [EY r c xs] (CW (.bool (Gw r c xs))):=by
 refine Ct.of func28 rfl (by kernel_rfl) rfl fun c0=>DS<|zV (.w 0 (xa 0 rfl yL rfl)<|.b rfl<|.nil) rfl fun g1=>CZ 0 (E1 1 rfl) rfl<|Dd<|zV (.r 0 (xc 0 Dw rfl zJ rfl)<|.n (zP (IZ) (A1 rfl))<|.n (xd rfl)<|.m rfl<|.n (gu rfl (fun hC=>(xe Ev rfl)))<|.r 0 (gu rfl (fun hC=>(zN 0 Ez (.w rfl hC) rfl zJ rfl)))<|.n (gu rfl (fun hC=>(xe EG rfl)))<|.r 0 (gu rfl (fun hC=>(zN 0 Ez (.w rfl hC) rfl zJ rfl)))<|.n (gu rfl (fun hC=>(oc rfl (.w rfl hC) (.w rfl hC) rfl)))<|.n (Fk (.t rfl) (fun h2=>(.w rfl h2)))<|.nil) rfl fun g2=>CZ 0 (E2 1 14 rfl) rfl<|zC<|zh rfl (fun h1=>?_) (fun h1=>?_)<;>try simp only[CT,Z]at h1
 ·refine zV (.b rfl<|.nil) rfl fun g3=>CY (E1 2 rfl)<|De<|zD<|DO rfl<|Ia (sC h1).symm
 obtain⟨hz1,hz2⟩:=h1
 have hg:=Eg hz1
 obtain⟨hs1,hs2,hs3,hs4⟩:=hg.1
 refine yE<|Dd<|zV (.n (xe Ev rfl)<|.r 0 (xf 0 Ez rfl zJ rfl)<|.n (zA (.k rfl))<|.nil) rfl fun g4=>CZ 0 (E3 1 16 17 rfl) rfl<|zC<|zT<|D4 (α:=Nat) (fun k=>k≤r.toNat∧Pp c xs k 0) (fun k=>r.toNat-k) (fun k restR=>(17,I6 (k:Int))::restR) (fun k restS=>restS) (ρc:=[(1,_),(16,_)]) (σc:=[_]) 0 (by exact⟨A7 _,ZA⟩) (Es (fun _=>E3 17 1 16 rfl) fun _=>R1 0 rfl) (fun k hI=>?_)
 obtain⟨hk,ha⟩:=hI
 refine zV (.n (xw rfl)<|.nil) rfl fun g5=>CZ 0 (E4 1 16 17 18 rfl) rfl<|Dd<|zh rfl (fun h2=>?_) (fun h2=>?_)<;>try simp only[CT,Z]at h2
 ·refine yE<|Dd<|zT<|zV (.m rfl<|.z rfl) rfl fun g6=>CZ 0 (E4 1 3 16 17 rfl) rfl<|zW (.m rfl<|.n (zA (.k rfl))<|.nil) rfl fun g7=>CZ 0 (E6 1 3 16 17 20 21 rfl) rfl<|zC<|zT<|D4 (α:=Nat) (fun q=>q≤k∧Pp c xs k q) (fun q=>k-q) (fun q restR=>(21,I6 (q:Int))::restR) (fun q restS=>restS) (ρc:=[(1,_),(3,_),(16,_),(17,_),(20,_)]) (σc:=[_]) 0 (by exact⟨A7 _,ha⟩) (Es (fun _=>E6 21 1 3 16 17 20 rfl) fun _=>R1 0 rfl) (fun q hJ=>?_)
  obtain⟨hq,hb⟩:=hJ
  refine zV (.n (xw rfl)<|.nil) rfl fun g8=>CZ 0 (E7 1 3 16 17 20 21 22 rfl) rfl<|Dd<|zh rfl (fun h3=>?_) (fun h3=>?_)<;>try simp only[CT,Z]at h3
  ·refine yE<|Dd<|zT<|zV (.m rfl<|.z rfl) rfl fun g9=>CZ 0 (E7 1 3 4 16 17 20 21 rfl) rfl<|zC<|zF (zG [[],[],[],[0,1,2],[],[],[],[0,1,2,3,4,5,6],[0,1,2,3,4,5,6,7],[0,1,2,3,4,5,6,7,8]] (.r 0 (xc 0 Dw rfl zJ rfl)<|.mm rfl<|.n (zP (ae hg ⟨by omega,by omega,by omega,by omega⟩) (A3 rfl))<|.r 0 (xc 0 Dw rfl zJ rfl)<|.mm rfl<|.n (zP (ae hg ⟨by omega,by omega,by omega,by omega⟩) (A3 rfl))<|.n (zP (rT) (A2 rfl))<|.n (EI (.t rfl))<|.nil) (fun _=>Di) rfl fun g10=>CZ 0 (E7 1 3 16 17 20 21 33 rfl) rfl ?_)
   refine zC<|zh rfl (fun h4=>?_) (fun h4=>?_)<;>try simp only[CT,Z]at h4
   ·refine zV (.b rfl<|.nil) rfl fun g11=>CY (E1 2 rfl)<|De<|yP<|zD<|zD<|yP<|yP<|zD<|zD<|yP<|zD<|DO rfl<|Ia (sD (i:=(k:Int)) (j:=(q:Int)) (by omega) (by omega) (by omega) (by simpa using h4)).symm
   refine yE<|zR<|zC<|(zG [] (.n (xo rfl (wo (by omega)))<|.m rfl<|.nil) ff rfl fun g12=>CZ 0 (E6 1 3 16 17 20 21 rfl) rfl ?_)
   exact yW (q+1) (by exact⟨by omega,Zz hb (by simpa using h4)⟩) (by omega) (Es (fun _=>E6 21 1 3 16 17 20 rfl) fun _=>R1 0 rfl)
  refine D6<|zE<|zE<|zS<|zR<|zC<|(zG [] (.n (xo rfl (wo (by omega)))<|.m rfl<|.nil) ff rfl fun g13=>CZ 0 (E3 1 16 17 rfl) rfl ?_)
  exact yW (k+1) (by exact⟨by omega,gF (show q=k by omega) hb⟩) (by omega) (Es (fun _=>E3 17 1 16 rfl) fun _=>R1 0 rfl)
 refine D6<|zE<|zE<|zS<|zW (.b rfl<|.nil) rfl fun g14=>CY (E1 2 rfl)<|De<|DO rfl<|Ia (sE hz1 hz2 (by omega) ha).symm
theorem YC{xs:List Nat}(hl:xs.length*8≤140737488355328):OH prog 34 [Dp xs] (id) (fun u=>CW u) (fun u=>DC u Dm xs 53):=by
 refine OH.of func34 rfl (by kernel_rfl) rfl fun c0=>zV (.b rfl<|.nil) rfl fun g1=>CY (E1 0 rfl)<|Dd<|zV (.m rfl<|.n (lz Dl (.t rfl))<|.nil) rfl fun g2=>CY (E2 0 4 rfl)<|zC<|oH (.t rfl) (fun h1=>?_) ?_
 ·refine zV (.b rfl<|.nil) rfl fun g3=>CY (E1 2 rfl)<|De<|zD<|D5 (To.emps 1)<|D5 (To.res 0 (r':=DC (.slice none 0 0) Dm xs 53) rfl (by rw[h1];exact FA) rfl)<|HD (u:=(.slice none 0 0)) 0 rfl rfl (.tmp (.t rfl)) (fun _ _ h=>h.1)<|zL
 skip
 refine yE<|zC<|DS<|zV (.w 0 (eZ (mk:=Dm) 0 Dl rfl)<|.m rfl<|.w 0 (tw 5 0 rfl rfl (fun u=>(HN 0 Dl EL rfl (.t rfl) (.t rfl) rfl (by show 0+xs.length≤_;omega) (by show(0+xs.length)*_≤_;omega))))<|.n (yX rfl rfl)<|.nil) rfl fun g4=>CZ 0 (E1 2 rfl) rfl<|De<|HD (u:=(g4 7)) 0 rfl rfl (.tmp (.t rfl)) (fun _ _ h=>h.1)<|zL
theorem SU{xs:List Nat}(hl:xs.length*8≤140737488355328):Ct prog 34 [Dp xs] (Dp xs):=(YC hl).ct (fun u=>Dz) fun u=>Ed 0 rfl
theorem aX{r:Int}{Q:List Nat}(hk:Gs r r Q=0)(hs:Gw r r Q=true):Ct prog 29 [EY r r Q] (CW (.bool (KC r Q))):=by
 obtain⟨n,rfl⟩: ∃ n:Nat,r=n:=⟨r.toNat,by have:=(Eg hk).1.1;omega⟩
 refine Ct.of func29 rfl (by kernel_rfl) rfl fun c0=>DS<|zV (.w 0 (xa 0 rfl yL rfl)<|.b rfl<|.nil) rfl fun g1=>CZ 0 (E1 1 rfl) rfl<|zW (.r 0 (xc 0 Dw rfl zJ rfl)<|.n (zP (Xx hk hs) (A1 rfl))<|.m rfl<|.n (xk rfl)<|.n (xk rfl)<|.a rfl<|.z rfl) rfl fun g2=>CY (E2 3 4 rfl)<|zW (.m rfl<|.n (xd rfl)<|.m rfl<|.n (gu rfl (fun hC=>(xB rfl)))<|.n (gu rfl (fun hC=>(oc rfl (.w rfl hC) (.k rfl) rfl)))<|.n (EO (.t rfl) (fun h2=>(.w rfl h2)))<|.z rfl) rfl fun g3=>CY (E1 2 rfl)<|De<|DO rfl<|Ia (by unfold KC;rw[Bool.eq_iff_iff];simp[CT])
theorem JU{s:I5}:Ct prog 12 [DL (XB s)] (I6 (HK s)):=by
 refine Ct.of func12 rfl (by kernel_rfl) rfl fun c0=>DS<|zV (.w 0 (xa 0 rfl yL rfl)<|.b rfl<|.nil) rfl fun g1=>CZ 0 (E1 1 rfl) rfl<|Dd<|zV (.n (xe Ff rfl)<|.r 0 (xc 0 Dw rfl zJ rfl)<|.n (zP (IZ) (A1 rfl))<|.z rfl) rfl fun g2=>CZ 0 (E2 1 3 rfl) rfl<|zW (.m rfl<|.n (xd rfl)<|.nil) rfl fun g3=>CZ 0 (E3 1 3 8 rfl) rfl<|zC<|zh rfl (fun h1=>?_) (fun h1=>?_)<;>try simp only[CT,Z]at h1
 ·refine zV (.m rfl<|.z rfl) rfl fun g4=>CY (E1 2 rfl)<|De<|zD<|DO rfl<|Dc (by unfold HK;rw[if_pos h1])
 refine yE<|Dd<|zT<|zV (.n (xe Ff rfl)<|.n (xe Ev rfl)<|.r 0 (xf 0 Ez rfl zJ rfl)<|.n (xe Ff rfl)<|.n (xe EG rfl)<|.r 0 (xf 0 Ez rfl zJ rfl)<|.n (xw rfl)<|.m rfl<|.n (gu rfl (fun hC=>(xe FQ rfl)))<|.r 0 (gu rfl (fun hC=>(zN 0 Eo (.w rfl hC) rfl zJ rfl)))<|.n (gu rfl (fun hC=>(yV Dl (.w rfl hC))))<|.n (gu rfl (fun hC=>(xe Ff rfl)))<|.n (gu rfl (fun hC=>(zI Ev (.w rfl hC) rfl)))<|.r 0 (gu rfl (fun hC=>(zN 0 Ez (.w rfl hC) rfl zJ rfl)))<|.n (gu rfl (fun hC=>(oc rfl (.w rfl hC) (.w rfl hC) rfl)))<|.n (Fk (.t rfl) (fun h2=>(.w rfl h2)))<|.z rfl) rfl fun g5=>CZ 0 (E2 1 10 rfl) rfl<|zC<|zh rfl (fun h2=>?_) (fun h2=>?_)<;>try simp only[CT,Z]at h2
 ·refine zV (.b rfl<|.nil) rfl fun g6=>CY (E1 2 rfl)<|De<|yP<|zD<|DO rfl<|Dc (by unfold HK;rw[if_neg (by omega),if_pos h2])
 obtain⟨hcr,hcl⟩:=h2
 refine zV (.n (xe FQ rfl)<|.r 0 (xf 0 Eo rfl zJ rfl)<|.n (zP (Jj) (A1 rfl))<|.n (EI (.t rfl))<|.z rfl) rfl fun g7=>CZ 0 (E2 1 27 rfl) rfl<|zC<|zh rfl (fun h3=>?_) (fun h3=>?_)<;>have h3':=h3<;>try simp only[CT,Z]at h3
 ·refine zV (.b rfl<|.nil) rfl fun g8=>CY (E1 2 rfl)<|De<|yP<|zD<|DO rfl<|Dc (by unfold HK;rw[if_neg (by omega),if_neg (by omega),if_pos (by simpa using h3')])
 refine zV (.n (xe Ff rfl)<|.r 0 (xc 0 Dw rfl zJ rfl)<|.n (zP (ZB) (A1 rfl))<|.n (EI (.t rfl))<|.z rfl) rfl fun g9=>CZ 0 (E2 1 32 rfl) rfl<|zC<|zh rfl (fun h4=>?_) (fun h4=>?_)<;>have h4':=h4<;>try simp only[CT,Z]at h4
 ·refine zV (.b rfl<|.nil) rfl fun g10=>CY (E1 2 rfl)<|De<|yP<|zD<|DO rfl<|Dc (by unfold HK;rw[if_neg (by omega),if_neg (by omega),if_neg (by simpa using h3'),if_pos (by simpa using h4')])
 have hcs:Gw s.r s.r s.a=true:=by have:=h4';rw[←hcr]at this;simpa using this
 have hck:=(JB.1 hcs).1
 refine zV (.n (xe Ff rfl)<|.r 0 (xc 0 Dw rfl zJ rfl)<|.n (zP (aX hck hcs) ⟨(Lk.sub (D3 (show DL [I6 s.r,I6 s.c,Dp s.a]=EY s.r s.r s.a by rw[←hcr];rfl)) (.t rfl)),trivial⟩)<|.n (EI (.t rfl))<|.z rfl) rfl fun g11=>CY (E1 37 rfl)<|zC<|zh rfl (fun h5=>?_) (fun h5=>?_)<;>have h5':=h5<;>try simp only[CT,Z]at h5
 ·refine zV (.b rfl<|.nil) rfl fun g12=>CY (E1 2 rfl)<|De<|yP<|zD<|DO rfl<|Dc (by unfold HK;rw[if_neg (by omega),if_neg (by omega),if_neg (by simpa using h3'),if_neg (by simpa using h4'),if_pos (by simpa using h5')])
 refine yE<|zR<|zW (.b rfl<|.nil) rfl fun g13=>CY (E1 2 rfl)<|De<|DO rfl<|Dc (by unfold HK;rw[if_neg (by omega),if_neg (by omega),if_neg (by simpa using h3'),if_neg (by simpa using h4'),if_neg (by simpa using h5')])
end Go.Proofs.YtgfanjebfjeneaaGreatDoor
