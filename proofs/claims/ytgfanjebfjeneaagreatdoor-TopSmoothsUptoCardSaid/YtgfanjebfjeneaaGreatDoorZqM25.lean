/- Printed by a program of ours (walk.py): walks of what the reference finds: symmetric, positive. -/
import Derived.Test.YtgfanjebfjeneaaGreatDoorZqM1
import Derived.Test.YtgfanjebfjeneaaGreatDoorProg
import Derived.KernelRfl
import Derived.Test.YtgfanjebfjeneaaGreatDoorZqM11
import Derived.Test.YtgfanjebfjeneaaGreatDoorZqM24
import Derived.Test.YtgfanjebfjeneaaGreatDoorZqM16
import Derived.Test.YtgfanjebfjeneaaGreatDoorZqM10
import Derived.Test.YtgfanjebfjeneaaGreatDoorZqM21
set_option linter.unusedVariables false
set_option linter.unusedSimpArgs false
set_option maxRecDepth 20000
set_option maxHeartbeats 8000000
namespace Go.Proofs.YtgfanjebfjeneaaGreatDoor
open Go Go.Bn Go.Proofs.Tryz
attribute [local irreducible] OpOK
theorem na{N L:Nat}(hN:N≤12)(hL:L=N*N):Ct prog 90 [I6 (N:Int),I6 (N:Int),I6 (L:Int)] (I6 0):=by
 refine Ct.of func90 rfl (by kernel_rfl) rfl fun c0=>?_
 have hnn:(N:Int)*(N:Int)=((N*N:Nat):Int):=(Ad N N).symm
 have hNN:N*N≤144:=C9 hN hN
 refine zV (.b rfl<|.nil) rfl fun g1=>CY (E3 0 1 2 rfl)<|Dd<|zT<|zV (.m rfl<|.n (xd rfl)<|.m rfl<|.n (gu rfl (fun hC=>(xB rfl)))<|.n (gu rfl (fun hC=>(oc rfl (.w rfl hC) (.k rfl) rfl)))<|.n (Fk (.t rfl) (fun h2=>(.w rfl h2)))<|.m rfl<|.n (gu rfl (fun hC=>(xB rfl)))<|.n (gu rfl (fun hC=>(oc rfl (.w rfl hC) (.k rfl) rfl)))<|.n (Fk (.t rfl) (fun h2=>(.w rfl h2)))<|.m rfl<|.n (gu rfl (fun hC=>(xB rfl)))<|.n (gu rfl (fun hC=>(oc rfl (.w rfl hC) (.k rfl) rfl)))<|.n (Fk (.t rfl) (fun h2=>(.w rfl h2)))<|.z rfl) rfl fun g2=>CY (E4 0 1 2 7 rfl)<|zC<|zh rfl (fun h1=>?_) (fun h1=>?_)<;>try simp only[CT,Z]at h1
 ·omega
 refine zV (.mm rfl<|.m rfl<|.n (xu rfl (show IntKind.i64.wrap ((N:Int)*(N:Int))=((N*N:Nat):Int) by rw[hnn];exact zO (by omega) (by omega)))<|.n (xw rfl)<|.z rfl) rfl fun g3=>CY (E1 22 rfl)<|zC<|zh rfl (fun h2=>?_) (fun h2=>?_)<;>try simp only[CT,Z]at h2
 ·omega
 refine yE<|zR<|zW (.b rfl<|.nil) rfl fun g4=>CY (E1 6 rfl)<|De<|DO rfl<|zL
theorem jv{N:Nat}{Q:List Nat}(hN:N≤12)(hL:Q.length=N*N)(hf:Q.all DF=true):Ct prog 48 [EY (N:Int) (N:Int) Q] (I6 0):=by
 refine Ct.of func48 rfl (by kernel_rfl) rfl fun c0=>DS<|zV (.w 0 (xa 0 rfl yL rfl)<|.b rfl<|.nil) rfl fun g1=>CZ 0 (E1 1 rfl) rfl<|Dd<|zV (.n (xe Ev rfl)<|.r 0 (xf 0 Ez rfl zJ rfl)<|.n (xe EG rfl)<|.r 0 (xf 0 Ez rfl zJ rfl)<|.n (xe Ek rfl)<|.r 0 (xf 0 Eo rfl zJ rfl)<|.n (xv Dl rfl)<|.n (zP (na hN hL) (A3 rfl))<|.z rfl) rfl fun g2=>CZ 0 (E2 1 3 rfl) rfl<|zW (.m rfl<|.n (xd rfl)<|.nil) rfl fun g3=>CZ 0 (E3 1 3 13 rfl) rfl<|zC<|zh rfl (fun h1=>?_) (fun h1=>?_)<;>have h1':=h1<;>try simp only[CT,Z]at h1
 ·exact absurd h1' (by decide)
 refine yE<|Dd<|zV (.n (xe Ek rfl)<|.r 0 (xf 0 Eo rfl zJ rfl)<|.n (zP (rB) (A1 rfl))<|.n (EI (.t rfl))<|.nil) rfl fun g4=>CY (E1 18 rfl)<|zC<|zh rfl (fun h2=>?_) (fun h2=>?_)<;>have h2':=h2<;>try simp only[CT,Z]at h2
 ·exact absurd h2' (by rw[hf];decide)
 refine yE<|zW (.b rfl<|.nil) rfl fun g5=>CY (E1 2 rfl)<|De<|DO rfl<|zL
theorem Zg{n:Nat}{qs:List Rat}{M:Nat→Nat→Rat}(hl:qs.length=n*n)(h9:n≤12)(hM: ∀ r j,r<n→j<n→qs.getD (r*n+j) 0=M r j)(hE:sX n M):Ct prog 52 [DL [I6 (n:Int),I6 (n:Int),I2 JL qs]] (I6 3):=by
 refine Ct.of func52 rfl (by kernel_rfl) rfl fun c0=>?_
 have hnn:n*n≤144:=C9 h9 h9
 have hz:=hE.flat hl hM
 refine DS<|zV (.w 0 (xa 0 rfl yL rfl)<|.b rfl<|.nil) rfl fun g1=>CZ 0 (E1 1 rfl) rfl<|zC<|yN (To.emps 2)<|zV (.r 0 (xc 0 JP rfl zJ rfl)<|.w 1 (HO 1 (pe hl (by omega) (fun m=>(hz m).mono (by omega))) (A1 rfl) rfl)<|.w 2 (xj 2 MN rfl)<|.w 2 (Ey 2 rfl rfl rfl (fun f=>yL) (fun f g h=>by rw[h 10 (show 10∈ [10]from by decide)]) (fun _=>PK) rfl (fun _=>rfl) rfl)<|.nil) rfl fun g2=>nx (E1 3 rfl) (R2 1 2 rfl)<|zC<|xK 0 rfl fun vsp=>?_
 obtain⟨vs,hvs⟩:=vsp
 refine DS<|yN (To.res 0 (r':=(DC (ZY 2 (g2 10)) CW vs 172).sep (FE qs.length (L7 179 vs qs))) rfl (fun _ _ h=>h) rfl)<|yN (To.split 0 2 rfl rfl rfl rfl)<|Qy 2 rfl X0 fun hptr=>yN (To.freeze 0 (fun _ h=>h) rfl Dz rfl)<|zV (.b rfl<|.nil) rfl fun g3=>nx (E2 3 4 rfl) (R2 1 2 rfl)<|Dd<|zV (.b rfl<|.nil) rfl fun g4=>nx (E3 3 4 5 rfl) (R2 0 1 rfl)<|zC<|zT<|D4 (α:=Nat×List Rat) (fun x=>x.1≤n∧Sy x.2 M n x.1 0) (fun x=>n-x.1) (fun x restR=>(5,I6 (x.1:Int))::(4,I6 3)::restR) (fun x restS=>FE qs.length (L7 179 vs x.2)::restS) (ρc:=[(3,_)]) (σc:=[_]) (0,qs) (by exact⟨A7 _,Vx hl hM⟩) (Es (fun _=>E3 5 4 3 rfl) fun _=>R2 1 0 rfl) (fun x hI=>?_)
 obtain⟨c,l⟩:=x
 try simp only at hI
 show J _ _ ((5,I6 (c:Int))::(4,I6 3)::_) (FE qs.length (L7 179 vs l)::_) _ _
 refine zF<|zV (.m rfl<|.n (xe TW rfl)<|.r 1 (xf 1 Ez rfl zJ rfl)<|.n (xw rfl)<|.nil) rfl fun g5=>nx (E4 3 4 5 14 rfl) (R2 0 1 rfl)<|zC<|zh rfl (fun h1=>?_) (fun h1=>?_)<;>try simp only[CT,Z]at h1
 ·obtain⟨hI1,hI2⟩:=hI
  have hcn:c<n:=by omega
  have hcc:=Kf hcn hcn
  have hll:l.length=n*n:=hI2.1
  obtain⟨hsg,hpn⟩:=oN hE hI2 hcn
  refine yE<|Dd<|zT<|zV (.r 1 (xc 1 JP rfl zJ rfl)<|.mm rfl<|.n (zP (LK (mk:=CW) IV (by omega) (by omega)) ⟨(Lk.sub (Dx (.cons zL<|.cons zL<|.cons (Ed 0 rfl)<|.nil)) (.t rfl)),(.t rfl),(.t rfl),trivial⟩)<|.z rfl) rfl fun g6=>nx (E4 3 4 5 6 rfl) (R2 0 1 rfl)<|Dd<|zV (.m rfl<|.r 0 (O5 0 Xk (RN _) ⟨.inr ⟨_,(.t rfl),Kt (by omega)⟩,trivial⟩ rfl)<|.n (xd rfl)<|.nil) rfl fun g7=>nx (E5 3 4 5 6 23 rfl) (R2 0 1 rfl)<|zC<|zh rfl (fun h2=>?_) (fun h2=>?_)<;>try simp only[CT,Z]at h2
  ·exact absurd h2 (by rw[hsg];decide)
  refine yE<|Dd<|zV (.m rfl<|.r 0 (O5 0 Xk (RN _) ⟨.inr ⟨_,(.t rfl),Kt (by omega)⟩,trivial⟩ rfl)<|.n (xd rfl)<|.nil) rfl fun g8=>nx (E5 3 4 5 6 26 rfl) (R2 0 1 rfl)<|zC<|zh rfl (fun h3=>?_) (fun h3=>?_)<;>try simp only[CT,Z]at h3
  ·exact absurd h3 (by rw[hsg];decide)
  refine yE<|zW (.m rfl<|.n (xo rfl (wo (by omega)))<|.z rfl) rfl fun g9=>nx (E5 3 4 5 6 8 rfl) (R2 0 1 rfl)<|zC<|zT<|D4 (α:=Nat×List Rat) (fun x=>c+1≤x.1∧x.1≤n∧Sy x.2 M n c x.1) (fun x=>n-x.1) (fun x restR=>(8,I6 (x.1:Int))::restR) (fun x restS=>FE qs.length (L7 179 vs x.2)::restS) (ρc:=[(3,_),(4,_),(5,_),(6,_)]) (σc:=[_]) (c+1,l) (by exact⟨A5 _,hcn,SI hI2⟩) (Es (fun _=>E5 8 3 4 5 6 rfl) fun _=>R2 0 1 rfl) (fun x hJ=>?_)
  obtain⟨i,m⟩:=x
  try simp only at hJ
  show J _ _ ((8,I6 (i:Int))::_) (FE qs.length (L7 179 vs m)::_) _ _
  obtain⟨hJ1,hJ2,hm⟩:=hJ
  have hml0:m.length=n*n:=hm.1
  refine zF<|zV (.m rfl<|.n (xe TW rfl)<|.r 1 (xf 1 Ez rfl zJ rfl)<|.n (xw rfl)<|.nil) rfl fun g10=>nx (E6 3 4 5 6 8 46 rfl) (R2 0 1 rfl)<|zC<|zh rfl (fun h4=>?_) (fun h4=>?_)<;>try simp only[CT,Z]at h4
  ·refine yE<|Dd<|zT ?_
   have hin:i<n:=by omega
   have hic:=Kf (c:=n) (k:=c) hin hcn
   have hml:m.length=qs.length:=by omega
   have hir:i*n+n≤n*n:=by rw[←B6];exact Au n hin
   have hcr:c*n+n≤n*n:=by rw[←B6];exact Au n hcn
   obtain⟨hA,hB,hq1,hq2,hq3,hqz⟩:=uu hE hm hin hcn
   refine DS<|(zG [[],[],[],[],[],[],[],[4,5,6],[],[3,4,5,6,7,8],[0,1,2,3,4,5,6,7,8,9]] (.r 1 (xc 1 JP rfl zJ rfl)<|.mm rfl<|.w 0 (O4 0 XZ rfl rfl)<|.r 1 (xc 1 JP rfl zJ rfl)<|.mm rfl<|.n (zP (LK (mk:=CW) IV (by omega) (by omega)) ⟨(Lk.sub (Dx (.cons zL<|.cons zL<|.cons (Ed 0 rfl)<|.nil)) (.t rfl)),(.t rfl),(.t rfl),trivial⟩)<|.m rfl<|.w 0 (Tb 0 rfl rfl (fun u=>En.two (rQ (hq1.mono (by omega)) (hq2.mono (by omega)) hq3) (.inr (Kt (by omega))) (.inr (Kt (by omega))) WI) rfl (A2 rfl))<|.w 0 (CV 0 (mj (by omega) hml (by omega) (by omega) (by omega) (by omega) (hqz.mono (by omega)) (fun j hj=>(hA j hj).mono (by omega)) (fun j hj=>(hB j hj).mono (by omega))) ⟨(Lk.sub (Dx (.cons zL<|.cons zL<|.cons (Ed 0 rfl)<|.nil)) (.t rfl)),(.t rfl),(.t rfl),(.t rfl),trivial⟩ rfl)<|.nil) (fun _=>Di) rfl fun g11=>nx (E5 3 4 5 6 8 rfl) (R2 0 1 rfl) ?_)
   refine zR<|zC<|(zG [] (.m rfl<|.n (xo rfl (wo (by omega)))<|.z rfl) ff rfl fun g12=>nx (E5 3 4 5 6 8 rfl) (R2 0 1 rfl) ?_)
   exact yW (i+1,J2 m i c n (m.getD (i*n+c) 0/m.getD (c*n+c) 0) n) (by exact⟨show c+1≤i+1 by omega,show i+1≤n by omega,aa hm (by omega) (by omega)⟩) (by show n-(_+1)<_;omega) (Es (fun _=>E5 8 3 4 5 6 rfl) fun _=>R2 0 1 rfl)
  refine D6<|zE<|zE<|zS<|zR<|zC<|(zG [] (.m rfl<|.n (xo rfl (wo (by omega)))<|.z rfl) ff rfl fun g13=>nx (E3 3 4 5 rfl) (R2 0 1 rfl) ?_)
  exact yW (c+1,m) (by exact⟨show c+1≤n by omega,QF ((show i=n by omega)▸hm)⟩) (by show n-(_+1)<_;omega) (Es (fun _=>E3 5 4 3 rfl) fun _=>R2 0 1 rfl)
 refine D6<|zE<|zE<|zS<|zW (.m rfl<|.z rfl) rfl fun g14=>CZ 0 (E1 2 rfl) rfl<|De<|DO rfl<|zL
theorem bU{r c i j:Int}{xs:List Nat}(hg:Fc r c xs)(hp:Pl r c i j):Ct prog 50 [EY r c xs,I6 i,I6 j] (Dm (mat c xs i j)):=by
 refine Ct.of func50 rfl (by kernel_rfl) rfl fun c0=>?_
 have hq:=hp.rng hg.1
 have hl:=hg.2
 obtain⟨hs1,hs2,hs3,hs4⟩:=hg.1
 obtain⟨hp1,hp2,hp3,hp4⟩:=hp
 refine DS<|zV (.w 0 (xa 0 rfl yL rfl)<|.n (zB (Lk.fk rfl (by decide+kernel)))<|.nil) rfl fun g1=>CZ 0 (E3 1 2 3 rfl) rfl<|zW (.n (xe Ek rfl)<|.r 0 (xf 0 Eo rfl zJ rfl)<|.m rfl<|.n (xe EG rfl)<|.r 0 (xf 0 Ez rfl zJ rfl)<|.n (xu rfl (wo (by omega)))<|.m rfl<|.n (xq rfl (wo (by omega)))<|.n (xx 0 Dl rfl (by omega) (by omega))<|.n (xy Fp rfl)<|.z rfl) rfl fun g2=>CY (E1 6 rfl)<|De<|DO rfl<|zL
theorem mV{n:Nat}{Q:List Nat}(hk:Gs (n:Int) (n:Int) Q=0)(hs:Gw (n:Int) (n:Int) Q=true):Ct prog 24 [EY (n:Int) (n:Int) Q] (I6 0):=by
 refine Ct.of func24 rfl (by kernel_rfl) rfl fun c0=>Qz 0 rfl fun hlt0=>?_
 have hQ:=WC hk hlt0
 have hg:=Eg hk
 have hn12:=hQ.n12
 have hsy:=(JB.1 hs).2.2
 refine DS<|zV (.w 0 (xa 0 rfl yL rfl)<|.b rfl<|.nil) rfl fun g1=>CZ 0 (E1 1 rfl) rfl<|Dd<|zV (.r 0 (xc 0 Dw rfl zJ rfl)<|.n (zP (jv hQ.n12 hQ.len (HG.1 hk).2) (A1 rfl))<|.z rfl) rfl fun g2=>CZ 0 (E2 1 3 rfl) rfl<|zW (.m rfl<|.n (xd rfl)<|.nil) rfl fun g3=>CZ 0 (E3 1 3 9 rfl) rfl<|zC<|zh rfl (fun h1=>?_) (fun h1=>?_)<;>try simp only[CT,Z]at h1
 ·exact absurd h1 (by decide)
 refine yE<|Dd<|zV (.n (xe Ev rfl)<|.r 0 (xf 0 Ez rfl zJ rfl)<|.n (xe EG rfl)<|.r 0 (xf 0 Ez rfl zJ rfl)<|.n (xw rfl)<|.nil) rfl fun g4=>CZ 0 (E2 1 15 rfl) rfl<|zC<|zh rfl (fun h2=>?_) (fun h2=>?_)<;>have h2':=h2<;>try simp only[CT,Z]at h2
 ·exact absurd h2' (by simp[CT])
 refine yE<|Dd<|zV (.b rfl<|.nil) rfl fun g5=>CZ 0 (E2 1 4 rfl) rfl<|zC<|zT<|D4 (α:=Nat) (fun i=>i≤n) (fun i=>n-i) (fun i restR=>(4,I6 (i:Int))::restR) (fun i restS=>restS) (ρc:=[(1,_)]) (σc:=[_]) 0 (by exact A7 _) (Es (fun _=>E2 4 1 rfl) fun _=>R1 0 rfl) (fun i hI=>?_)
 refine zF<|zV (.m rfl<|.n (xe Ev rfl)<|.r 0 (xf 0 Ez rfl zJ rfl)<|.n (xw rfl)<|.nil) rfl fun g6=>CZ 0 (E3 1 4 19 rfl) rfl<|zC<|zh rfl (fun h3=>?_) (fun h3=>?_)<;>try simp only[CT,Z]at h3
 ·refine yE<|Dd<|zT<|zV (.b rfl<|.nil) rfl fun g7=>CZ 0 (E3 1 4 5 rfl) rfl<|zC<|zT<|D4 (α:=Nat) (fun j=>j≤i) (fun j=>i-j) (fun j restR=>(5,I6 (j:Int))::restR) (fun j restS=>restS) (ρc:=[(1,_),(4,_)]) (σc:=[_]) 0 (by exact A7 _) (Es (fun _=>E3 5 1 4 rfl) fun _=>R1 0 rfl) (fun j hI=>?_)
  refine zF<|zV (.mm rfl<|.n (xw rfl)<|.nil) rfl fun g8=>CZ 0 (E4 1 4 5 24 rfl) rfl<|zC<|zh rfl (fun h4=>?_) (fun h4=>?_)<;>try simp only[CT,Z]at h4
  ·refine yE<|Dd<|zT<|zF (zG [[],[],[],[0,1,2],[],[],[],[0,1,2,3,4,5,6],[0,1,2,3,4,5,6,7],[0,1,2,3,4,5,6,7,8]] (.r 0 (xc 0 Dw rfl zJ rfl)<|.mm rfl<|.n (zP (bU hg ⟨by omega,by omega,by omega,by omega⟩) (A3 rfl))<|.r 0 (xc 0 Dw rfl zJ rfl)<|.mm rfl<|.n (zP (bU hg ⟨by omega,by omega,by omega,by omega⟩) (A3 rfl))<|.n (zP (mT) (A2 rfl))<|.n (EI (.t rfl))<|.nil) (fun _=>Di) rfl fun g9=>CZ 0 (E4 1 4 5 36 rfl) rfl ?_)
   refine zC<|zh rfl (fun h5=>?_) (fun h5=>?_)<;>try simp only[CT,Z]at h5
   ·exact absurd (hsy (i:Int) (j:Int) (by omega) (by omega) (by omega)) (by simpa using h5)
   refine yE<|zR<|zC<|(zG [] (.m rfl<|.n (xo rfl (wo (by omega)))<|.z rfl) ff rfl fun g10=>CZ 0 (E3 1 4 5 rfl) rfl ?_)
   exact yW (j+1) (by omega) (by omega) (Es (fun _=>E3 5 1 4 rfl) fun _=>R1 0 rfl)
  refine D6<|zE<|zE<|zS<|zR<|zC<|(zG [] (.m rfl<|.n (xo rfl (wo (by omega)))<|.z rfl) ff rfl fun g11=>CZ 0 (E2 1 4 rfl) rfl ?_)
  exact yW (i+1) (by omega) (by omega) (Es (fun _=>E2 4 1 rfl) fun _=>R1 0 rfl)
 refine D6<|zE<|zE<|zS<|zW (.b rfl<|.nil) rfl fun g12=>CY (E1 2 rfl)<|De<|DO rfl<|zL
theorem rN{n:Nat}{Q:List Nat}(hQ:MQ n Q):Ct prog 51 [EY (n:Int) (n:Int) Q] (DL [I6 (n:Int),I6 (n:Int),I2 JL (Q.map Hc)]):=by
 refine Ct.of func51 rfl (by kernel_rfl) rfl fun c0=>?_
 have hql:=hQ.len
 have hqn:n*n≤144:=C9 hQ.n12 hQ.n12
 refine yN (To.emps 2)<|zV (.w 0 (xa 0 rfl yL rfl)<|.w 1 (xj 1 MN rfl)<|.nil) rfl fun g1=>nx (E2 1 2 rfl) (R2 0 1 rfl)<|zW (.r 0 (xc 0 Dw rfl zJ rfl)<|.n (zP (lk hQ.fin (by omega)) (A1 rfl))<|.w 1 (xn 1 rfl yL PK rfl)<|.nil) rfl fun g2=>CZ 1 (E1 2 rfl) rfl<|De<|zQ (.cons (.ag 0 (.t rfl) JP rfl rfl rfl)<|.nil) (zM (yD zL) ?_)
 exact zL
theorem rP{n:Nat}{Q:List Nat}(hk:Gs (n:Int) (n:Int) Q=0)(hp:KC (n:Int) Q=true):Ct prog 25 [EY (n:Int) (n:Int) Q] (CW (.bool true)):=by
 refine Ct.of func25 rfl (by kernel_rfl) rfl fun c0=>Qz 0 rfl fun hlt0=>?_
 have hQ:=WC hk hlt0
 refine DS<|zV (.w 0 (xa 0 rfl yL rfl)<|.b rfl<|.nil) rfl fun g1=>CZ 0 (E1 1 rfl) rfl<|zW (.r 0 (xc 0 Dw rfl zJ rfl)<|.n (zP (rN hQ) (A1 rfl))<|.n (zP (Zg (qs:=Q.map Hc) hQ.ql hQ.n12 (fun r j hr hj=>No hQ.len hr hj) (v8 hQ hp)) (A1 rfl))<|.n (xd rfl)<|.z rfl) rfl fun g2=>CY (E1 2 rfl)<|De<|DO rfl<|zL
theorem cI{n:Nat}{Q:List Nat}(hk:Gs (n:Int) (n:Int) Q=0)(hs:Gw (n:Int) (n:Int) Q=true)(hp:KC (n:Int) Q=true):Ct prog 11 [EY (n:Int) (n:Int) Q] (CW (.bool true)):=by
 refine Ct.of func11 rfl (by kernel_rfl) rfl fun c0=>DS<|zV (.w 0 (xa 0 rfl yL rfl)<|.b rfl<|.nil) rfl fun g1=>CZ 0 (E1 1 rfl) rfl<|zW (.r 0 (xc 0 Dw rfl zJ rfl)<|.n (zP (mV hk hs) (A1 rfl))<|.n (xd rfl)<|.m rfl<|.r 0 (gu rfl (fun hC=>(xc 0 Dw rfl zJ rfl)))<|.n (gu rfl (fun hC=>(zP (rP hk hp) ⟨(.w rfl hC),trivial⟩)))<|.n (EO (.t rfl) (fun h2=>(.w rfl h2)))<|.z rfl) rfl fun g2=>CY (E1 2 rfl)<|De<|DO rfl<|zL
theorem Zw{xs ps:List Nat}{n lg:Int}{ms:List H9}{gs:List MT}(y1: ∀ b,b∈xs→b<2^64)(y2:xs.length≤2000000)(y3: ∀ b,b∈ps→b<2^64)(y4:ps.length≤2000000)(hg: ∀ g,g∈gs→Sz g)(hlg: -9223372036854775808≤lg∧lg≤9223372036854775807):Ct prog 3 [u6 xs,I6 (n),u6 ps,QB ms,Lq 2 YR gs,I6 (lg)] (CW (.bool true)):=by
 refine Ct.of func3 rfl (by kernel_rfl) rfl fun c0=>DS<|zV (.w 0 (xa 0 rfl yL rfl)<|.b rfl<|.nil) rfl fun g1=>CZ 0 (E6 0 1 2 4 5 9 rfl) rfl<|Dd<|zV (.m rfl<|.n (Ef wy (.t rfl))<|.n (xd rfl)<|.nil) rfl fun g2=>CZ 0 (E7 0 1 2 4 5 9 26 rfl) rfl<|zC<|zh rfl (fun h1=>?_) (fun h1=>?_)<;>try simp only[CT,Z]at h1
 ·refine zV (.n (zP (MX) trivial)<|.z rfl) rfl fun g3=>CY (E1 12 rfl)<|De<|zD<|DO rfl<|zL
 refine yE<|zC<|zF (zG [[],[],[],[],[0,1,2,3],[],[],[],[0,1,2,3,4,6,7],[0,1,2,3,4,5,6,7,8],[0,1,2,3,4,5,6,7,8,9],[0,1,2,3,4,5,6,7,8,9,10],[0,1,2,3,4,5,6,7,8,9,10],[0,1,2,3,4,5,6,7,8,9,10],[0,1,2,3,4,5,6,7,8,9,10,11],[0,1,2,3,4,5,6,7,8,9,10,11,12,14],[0,1,2,3,4,5,6,7,8,9,10,11,12,13,14,15]] (.mm rfl<|.mm rfl<|.n (zP (eg y1 y2 y3 y4) (A4 rfl))<|.r 0 (xc 0 Sj rfl zJ rfl)<|.mm rfl<|.n (zP (kq hg (by omega)) (A2 rfl))<|.n (zP (cG) (A3 rfl))<|.m rfl<|.n (xk rfl)<|.n (xk rfl)<|.n (xk rfl)<|.a rfl<|.a rfl<|.z rfl) (fun _=>Di) rfl fun g4=>CY (E3 5 13 15 rfl) ?_)
 refine Dd<|zV (.m rfl<|.n (xd rfl)<|.nil) rfl fun g5=>CY (E3 5 13 43 rfl)<|zC<|zh rfl (fun h2=>?_) (fun h2=>?_)<;>try simp only[CT,Z]at h2
 ·refine zV (.n (zP (MX) trivial)<|.z rfl) rfl fun g6=>CY (E1 12 rfl)<|De<|zD<|DO rfl<|zL
 refine yE<|zC ?_
 have hlt1:=Int.tmod_lt_of_pos lg (show(0:Int)<5 by decide)
 have hlt2:=Int.lt_tmod_of_pos lg (show(0:Int)<5 by decide)
 refine zV (.m rfl<|.n (Gr (.t rfl) (.k rfl) (by omega) rfl)<|.n (xo rfl (wo (by omega)))<|.n (Gr (.t rfl) (.k rfl) (by omega) rfl)<|.z rfl) rfl fun g7=>CY (E2 5 13 rfl)<|zC<|zF ?_
 obtain⟨l,hl⟩: ∃ l,(zY ⟨xs.map cn,n,n,ps.map cn⟩ ms (gs.map (YQ n)))=l:=⟨_,rfl⟩
 refine yN (To.slot 13 rfl (q:=Lq 11 Nw l) (D3 (by rw[hl]))) ?_
 obtain⟨m,hm,hm0,hm1⟩:=qn lg
 refine yN (To.slot 5 rfl (q:=I6 m) (D3 (by rw[←hm])))<|zV (.n (xC wz zr3 rfl (.cons rfl (.k rfl) D7 rfl (yU rfl (A8 rfl)) (.cons rfl (.k rfl) D7 rfl (yU rfl (A8 rfl)) .nil)))<|.n (Z7 wz (.t rfl))<|.n (zA (.k rfl))<|.nil) rfl fun g8=>CY (E5 5 13 49 50 51 rfl)<|zC<|zT<|yN (To.slot 49 rfl (q:=DP .i64 [0,1]) (D3 rfl))<|D4 (α:=Nat) (fun k=>k≤2) (fun k=>2-k) (fun k restR=>(51,I6 ((k:Nat):Int))::restR) (fun k restS=>restS) (ρc:=[(5,_),(13,_),(49,_),(50,_)]) (σc:=[]) 0 (by omega) (Es (fun _=>E5 51 5 13 49 50 rfl) fun _=>R0) (fun k hI=>?_)
 have h01:([0,1]:List Int).length=2:=rfl
 refine zV (.n (xw rfl)<|.nil) rfl fun g9=>CY (E6 5 13 49 50 51 52 rfl)<|Dd<|zh rfl (fun h3=>?_) (fun h3=>?_)<;>try simp only[CT,Z]at h3
 ·refine yE<|Dd<|zT<|zV (.n (xx 0 wz rfl (by omega) (by omega))<|.n (xy Ez rfl)<|.z rfl) rfl fun g10=>CY (E6 5 13 17 49 50 51 rfl)<|zW (.m rfl<|.n (zP (S5) (A1 rfl))<|.m rfl<|.n (xk rfl)<|.n (xk rfl)<|.n (xk rfl)<|.a rfl<|.a rfl<|.z rfl) rfl fun g11=>CY (E8 5 13 17 18 20 49 50 51 rfl)<|Dd<|zV (.m rfl<|.n (xd rfl)<|.nil) rfl fun g12=>CY (E8 5 13 18 20 49 50 51 62 rfl)<|zC<|zh rfl (fun h4=>?_) (fun h4=>?_)<;>try simp only[CT,Z]at h4
  ·refine(zG [] (.mm rfl<|.n (zP (s8 hm0 (by omega)) (A2 rfl))<|.m rfl<|.n (xk rfl)<|.n (xk rfl)<|.n (xk rfl)<|.a rfl<|.z rfl) ff rfl fun g13=>CY (E7 5 13 18 20 49 50 51 rfl) ?_)
   refine Dd<|zV (.m rfl<|.n (xd rfl)<|.nil) rfl fun g14=>CY (E7 5 13 18 49 50 51 71 rfl)<|zC<|zh rfl (fun h5=>?_) (fun h5=>?_)<;>try simp only[CT,Z]at h5
   ·refine D6<|zE<|zS<|zC<|(zG [] (.n (xo rfl (wo (by omega)))<|.m rfl<|.nil) ff rfl fun g15=>CY (E5 5 13 49 50 51 rfl) ?_)
    exact yW (k+1) (by omega) (by omega) (Es (fun _=>E5 51 5 13 49 50 rfl) fun _=>R0)
   refine yE<|zC<|zF ?_
   obtain⟨o,ho⟩: ∃ o,jP l m=o:=⟨_,rfl⟩
   refine yN (To.slot 18 rfl (q:=Lq 5 KM o) (D3 (by rw[ho]))) ?_
   have hz:xR l o:=ho▸vx hm0 h5
   have hzl:=hz.len
   have hzo:=hz.ok
   have hlm:=hzo.m
   obtain⟨N,hN⟩:=aB hz
   refine zV (.m rfl<|.n (Ef Kh (.t rfl))<|.m rfl<|.n (Ef La (.t rfl))<|.n (xw rfl)<|.nil) rfl fun g16=>CY (E7 5 13 18 49 50 51 76 rfl)<|zC<|zh rfl (fun h6=>?_) (fun h6=>?_)<;>try simp only[CT,Z]at h6
   ·omega
   refine yE<|zW (.m rfl<|.n (Ef Kh (.t rfl))<|.n (zA (.k rfl))<|.nil) rfl fun g17=>CY (E8 5 13 18 49 50 51 78 79 rfl)<|zC<|zT<|D4 (α:=Nat) (fun j=>j≤o.length) (fun j=>o.length-j) (fun j restR=>(79,I6 ((j:Nat):Int))::restR) (fun j restS=>restS) (ρc:=[(5,_),(13,_),(18,_),(49,_),(50,_),(51,_),(78,_)]) (σc:=[]) 0 (by exact A7 _) (Es (fun _=>E8 79 5 13 18 49 50 51 78 rfl) fun _=>R0) (fun j hJ=>?_)
   refine zV (.n (xw rfl)<|.nil) rfl fun g18=>CY (E9 5 13 18 49 50 51 78 79 80 rfl)<|Dd<|zh rfl (fun h7=>?_) (fun h7=>?_)<;>try simp only[CT,Z]at h7
   ·have hjl:j<l.length:=by omega
    have hN:T7 l=(N:Int):=hN.resolve_right (by omega)
    obtain⟨hr1,hk1⟩:=hzo.at' j hjl
    have hso:=hz.at' j hjl
    rw[hN]at hr1 hk1 hso
    obtain⟨hc1,hc2,hc3,hc4,hc5,hc6⟩:=hk1.post hr1
    have hso:Vn (N:Int) (l.getD ((j:Nat):Int).toNat Hg).q.a (o.getD ((j:Nat):Int).toNat FS):=hso
    have hc1:(l.getD ((j:Nat):Int).toNat Hg).q.r=N:=hc1
    have hc2:(l.getD ((j:Nat):Int).toNat Hg).q.c=N:=hc2
    have hc4:Gs (N:Int) (N:Int) (l.getD ((j:Nat):Int).toNat Hg).q.a=0:=hc4
    have hc5:Gw (N:Int) (N:Int) (l.getD ((j:Nat):Int).toNat Hg).q.a=true:=hc5
    refine yE<|Dd<|zT<|zV (.m rfl<|.z rfl) rfl fun g19=>CY (E9 5 13 18 21 49 50 51 78 79 rfl)<|zC<|zF (zG [[],[],[0,1],[0,1,2],[0,1,2,3],[0,1,2,3,4],[],[],[6,7],[6,7,8],[6,7,8,9],[6,7,8,9,10],[0,1,2,3,4,5,6,7,8,9,10,11],[0,1,2,3,4,5,6,7,8,9,10,11,12],[0,1,2,3,4,5,6,7,8,9,10,11,12,13],[0,1,2,3,4,5,6,7,8,9,10,11,12,13],[0,1,2,3,4,5,6,7,8,9,10,11,12,13,14],[0,1,2,3,4,5,6,7,8,9,10,11,12,13,14,15,16]] (.mm rfl<|.n (DX (mk:=KM) FS Kh HU (.t rfl) (.t rfl) (by omega) (by omega))<|.n (xF N2 rfl)<|.n (xF Ff rfl)<|.n (DB Dw (.t rfl) rfl rfl)<|.mm rfl<|.n (DX (mk:=Nw) Hg La JX (.t rfl) (.t rfl) (by omega) (by omega))<|.n (xF LC rfl)<|.n (xF Ff rfl)<|.n (DB Dw (.t rfl) rfl rfl)<|.n (zP (Rx hso.k hc4 hso.y hc5) ⟨(Lk.sub (D3 (show DL [I6 (o.getD ((j:Nat):Int).toNat FS).s.r,I6 (o.getD ((j:Nat):Int).toNat FS).s.c,Dp (o.getD ((j:Nat):Int).toNat FS).s.a]=EY (N:Int) (N:Int) (o.getD ((j:Nat):Int).toNat FS).s.a from by rw[hso.r,hso.c];rfl)) (.t rfl)),(Lk.sub (D3 (show DL [I6 (l.getD ((j:Nat):Int).toNat Hg).q.r,I6 (l.getD ((j:Nat):Int).toNat Hg).q.c,Dp (l.getD ((j:Nat):Int).toNat Hg).q.a]=EY (N:Int) (N:Int) (l.getD ((j:Nat):Int).toNat Hg).q.a from by rw[hc1,hc2];rfl)) (.t rfl)),trivial⟩)<|.m rfl<|.n (xk rfl)<|.n (xk rfl)<|.a rfl<|.z rfl) (fun _=>Di) rfl fun g20=>CY (Ec 5 13 18 21 22 23 49 50 51 78 rfl<|E1 79 rfl) ?_)
    refine zW (.m rfl<|.n (xd rfl)<|.m rfl<|.n (gu rfl (fun hC=>(xB rfl)))<|.n (gu rfl (fun hC=>(EI (.w rfl hC))))<|.n (Fk (.t rfl) (fun h2=>(.w rfl h2)))<|.m rfl<|.n (gu rfl (fun hC=>(xB rfl)))<|.n (gu rfl (fun hC=>(xB rfl)))<|.n (gu rfl (fun hC=>(DX (mk:=KM) FS Kh HU (.w rfl hC) (.w rfl hC) (by omega) (by omega))))<|.n (gu rfl (fun hC=>(yR N2 (.w rfl hC) rfl)))<|.n (gu rfl (fun hC=>(yR Ff (.w rfl hC) rfl)))<|.n (gu rfl (fun hC=>(DB Dw (.w rfl hC) rfl rfl)))<|.n (gu rfl (fun hC=>(zP (cI hso.k hso.y hso.p) ⟨(Lk.sub (D3 (show DL [I6 (o.getD ((j:Nat):Int).toNat FS).s.r,I6 (o.getD ((j:Nat):Int).toNat FS).s.c,Dp (o.getD ((j:Nat):Int).toNat FS).s.a]=EY (N:Int) (N:Int) (o.getD ((j:Nat):Int).toNat FS).s.a from by rw[hso.r,hso.c];rfl)) (.w rfl hC)),trivial⟩)))<|.n (gu rfl (fun hC=>(EI (.w rfl hC))))<|.n (Fk (.t rfl) (fun h2=>(.w rfl h2)))<|.nil) rfl fun g21=>CY (E9 5 13 18 49 50 51 78 79 113 rfl)<|zC<|zh rfl (fun h8=>?_) (fun h8=>?_)<;>have h8':=h8<;>try simp only[CT,Z]at h8
    ·exact absurd h8' (by have h9:=hso.l;rw[Ar]at h9;rw[h9];decide)
    refine yE<|zR<|zC<|(zG [] (.n (xo rfl (wo (by omega)))<|.m rfl<|.nil) ff rfl fun g22=>CY (E8 5 13 18 49 50 51 78 79 rfl) ?_)
    exact yW (j+1) (by omega) (by omega) (Es (fun _=>E8 79 5 13 18 49 50 51 78 rfl) fun _=>R0)
   refine D6<|zE<|zE<|zS<|zR<|zC<|(zG [] (.n (xo rfl (wo (by omega)))<|.m rfl<|.nil) ff rfl fun g23=>CY (E5 5 13 49 50 51 rfl) ?_)
   exact yW (k+1) (by omega) (by omega) (Es (fun _=>E5 51 5 13 49 50 rfl) fun _=>R0)
  refine yE<|Dd<|zV (.m rfl<|.n (xd rfl)<|.nil) rfl fun g24=>CY (E7 5 13 18 49 50 51 71 rfl)<|zC<|zh rfl (fun h9=>?_) (fun h9=>?_)<;>try simp only[CT,Z]at h9
  ·refine D6<|zE<|zS<|zC<|(zG [] (.n (xo rfl (wo (by omega)))<|.m rfl<|.nil) ff rfl fun g25=>CY (E5 5 13 49 50 51 rfl) ?_)
   exact yW (k+1) (by omega) (by omega) (Es (fun _=>E5 51 5 13 49 50 rfl) fun _=>R0)
  refine yE<|zC<|zF ?_
  obtain⟨o,ho⟩: ∃ o,x6 l=o:=⟨_,rfl⟩
  refine yN (To.slot 18 rfl (q:=Lq 5 KM o) (D3 (by rw[ho]))) ?_
  have hz:xR l o:=ho▸a0h h9
  have hzl:=hz.len
  have hzo:=hz.ok
  have hlm:=hzo.m
  obtain⟨N,hN⟩:=aB hz
  refine zV (.m rfl<|.n (Ef Kh (.t rfl))<|.m rfl<|.n (Ef La (.t rfl))<|.n (xw rfl)<|.nil) rfl fun g26=>CY (E7 5 13 18 49 50 51 76 rfl)<|zC<|zh rfl (fun h10=>?_) (fun h10=>?_)<;>try simp only[CT,Z]at h10
  ·omega
  refine yE<|zW (.m rfl<|.n (Ef Kh (.t rfl))<|.n (zA (.k rfl))<|.nil) rfl fun g27=>CY (E8 5 13 18 49 50 51 78 79 rfl)<|zC<|zT<|D4 (α:=Nat) (fun j=>j≤o.length) (fun j=>o.length-j) (fun j restR=>(79,I6 ((j:Nat):Int))::restR) (fun j restS=>restS) (ρc:=[(5,_),(13,_),(18,_),(49,_),(50,_),(51,_),(78,_)]) (σc:=[]) 0 (by exact A7 _) (Es (fun _=>E8 79 5 13 18 49 50 51 78 rfl) fun _=>R0) (fun j hJ=>?_)
  refine zV (.n (xw rfl)<|.nil) rfl fun g28=>CY (E9 5 13 18 49 50 51 78 79 80 rfl)<|Dd<|zh rfl (fun h11=>?_) (fun h11=>?_)<;>try simp only[CT,Z]at h11
  ·have hjl:j<l.length:=by omega
   have hN:T7 l=(N:Int):=hN.resolve_right (by omega)
   obtain⟨hr1,hk1⟩:=hzo.at' j hjl
   have hso:=hz.at' j hjl
   rw[hN]at hr1 hk1 hso
   obtain⟨hc1,hc2,hc3,hc4,hc5,hc6⟩:=hk1.post hr1
   have hso:Vn (N:Int) (l.getD ((j:Nat):Int).toNat Hg).q.a (o.getD ((j:Nat):Int).toNat FS):=hso
   have hc1:(l.getD ((j:Nat):Int).toNat Hg).q.r=N:=hc1
   have hc2:(l.getD ((j:Nat):Int).toNat Hg).q.c=N:=hc2
   have hc4:Gs (N:Int) (N:Int) (l.getD ((j:Nat):Int).toNat Hg).q.a=0:=hc4
   have hc5:Gw (N:Int) (N:Int) (l.getD ((j:Nat):Int).toNat Hg).q.a=true:=hc5
   refine yE<|Dd<|zT<|zV (.m rfl<|.z rfl) rfl fun g29=>CY (E9 5 13 18 21 49 50 51 78 79 rfl)<|zC<|zF (zG [[],[],[0,1],[0,1,2],[0,1,2,3],[0,1,2,3,4],[],[],[6,7],[6,7,8],[6,7,8,9],[6,7,8,9,10],[0,1,2,3,4,5,6,7,8,9,10,11],[0,1,2,3,4,5,6,7,8,9,10,11,12],[0,1,2,3,4,5,6,7,8,9,10,11,12,13],[0,1,2,3,4,5,6,7,8,9,10,11,12,13],[0,1,2,3,4,5,6,7,8,9,10,11,12,13,14],[0,1,2,3,4,5,6,7,8,9,10,11,12,13,14,15,16]] (.mm rfl<|.n (DX (mk:=KM) FS Kh HU (.t rfl) (.t rfl) (by omega) (by omega))<|.n (xF N2 rfl)<|.n (xF Ff rfl)<|.n (DB Dw (.t rfl) rfl rfl)<|.mm rfl<|.n (DX (mk:=Nw) Hg La JX (.t rfl) (.t rfl) (by omega) (by omega))<|.n (xF LC rfl)<|.n (xF Ff rfl)<|.n (DB Dw (.t rfl) rfl rfl)<|.n (zP (Rx hso.k hc4 hso.y hc5) ⟨(Lk.sub (D3 (show DL [I6 (o.getD ((j:Nat):Int).toNat FS).s.r,I6 (o.getD ((j:Nat):Int).toNat FS).s.c,Dp (o.getD ((j:Nat):Int).toNat FS).s.a]=EY (N:Int) (N:Int) (o.getD ((j:Nat):Int).toNat FS).s.a from by rw[hso.r,hso.c];rfl)) (.t rfl)),(Lk.sub (D3 (show DL [I6 (l.getD ((j:Nat):Int).toNat Hg).q.r,I6 (l.getD ((j:Nat):Int).toNat Hg).q.c,Dp (l.getD ((j:Nat):Int).toNat Hg).q.a]=EY (N:Int) (N:Int) (l.getD ((j:Nat):Int).toNat Hg).q.a from by rw[hc1,hc2];rfl)) (.t rfl)),trivial⟩)<|.m rfl<|.n (xk rfl)<|.n (xk rfl)<|.a rfl<|.z rfl) (fun _=>Di) rfl fun g30=>CY (Ec 5 13 18 21 22 23 49 50 51 78 rfl<|E1 79 rfl) ?_)
   refine zW (.m rfl<|.n (xd rfl)<|.m rfl<|.n (gu rfl (fun hC=>(xB rfl)))<|.n (gu rfl (fun hC=>(EI (.w rfl hC))))<|.n (Fk (.t rfl) (fun h2=>(.w rfl h2)))<|.m rfl<|.n (gu rfl (fun hC=>(xB rfl)))<|.n (gu rfl (fun hC=>(xB rfl)))<|.n (gu rfl (fun hC=>(DX (mk:=KM) FS Kh HU (.w rfl hC) (.w rfl hC) (by omega) (by omega))))<|.n (gu rfl (fun hC=>(yR N2 (.w rfl hC) rfl)))<|.n (gu rfl (fun hC=>(yR Ff (.w rfl hC) rfl)))<|.n (gu rfl (fun hC=>(DB Dw (.w rfl hC) rfl rfl)))<|.n (gu rfl (fun hC=>(zP (cI hso.k hso.y hso.p) ⟨(Lk.sub (D3 (show DL [I6 (o.getD ((j:Nat):Int).toNat FS).s.r,I6 (o.getD ((j:Nat):Int).toNat FS).s.c,Dp (o.getD ((j:Nat):Int).toNat FS).s.a]=EY (N:Int) (N:Int) (o.getD ((j:Nat):Int).toNat FS).s.a from by rw[hso.r,hso.c];rfl)) (.w rfl hC)),trivial⟩)))<|.n (gu rfl (fun hC=>(EI (.w rfl hC))))<|.n (Fk (.t rfl) (fun h2=>(.w rfl h2)))<|.nil) rfl fun g31=>CY (E9 5 13 18 49 50 51 78 79 113 rfl)<|zC<|zh rfl (fun h12=>?_) (fun h12=>?_)<;>have h12':=h12<;>try simp only[CT,Z]at h12
   ·exact absurd h12' (by have h9:=hso.l;rw[Ar]at h9;rw[h9];decide)
   refine yE<|zR<|zC<|(zG [] (.n (xo rfl (wo (by omega)))<|.m rfl<|.nil) ff rfl fun g32=>CY (E8 5 13 18 49 50 51 78 79 rfl) ?_)
   exact yW (j+1) (by omega) (by omega) (Es (fun _=>E8 79 5 13 18 49 50 51 78 rfl) fun _=>R0)
  refine D6<|zE<|zE<|zS<|zR<|zC<|(zG [] (.n (xo rfl (wo (by omega)))<|.m rfl<|.nil) ff rfl fun g33=>CY (E5 5 13 49 50 51 rfl) ?_)
  exact yW (k+1) (by omega) (by omega) (Es (fun _=>E5 51 5 13 49 50 rfl) fun _=>R0)
 refine D6<|zE<|zE<|zS<|zW (.n (zP (MX) trivial)<|.z rfl) rfl fun g34=>CY (E1 12 rfl)<|De<|DO rfl<|zL
end Go.Proofs.YtgfanjebfjeneaaGreatDoor
