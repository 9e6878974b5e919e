/- Printed by a program of ours (walk.py): walks of long division. -/
import Derived.Test.YtgfanjebfjeneaaGreatDoorZqM1
import Derived.Test.YtgfanjebfjeneaaGreatDoorProg
import Derived.KernelRfl
import Derived.Test.YtgfanjebfjeneaaGreatDoorZqM11
import Derived.Test.YtgfanjebfjeneaaGreatDoorZqM22
import Derived.Test.YtgfanjebfjeneaaGreatDoorZqM6
set_option linter.unusedVariables false
set_option linter.unusedSimpArgs false
set_option maxRecDepth 20000
set_option maxHeartbeats 8000000
namespace Go.Proofs.YtgfanjebfjeneaaGreatDoor
open Go Go.Bn Go.Proofs.Tryz
attribute [local irreducible] OpOK
theorem Qg{X Y:Nat}(hX:(CR X).length≤100000000000)(hY:(CR Y).length≤100000000000)(hY0:0<Y):Ct prog 188 [DP .u32 (CR X),DP .u32 (CR Y)] (EP [DP .u32 (CR (X/Y)),DP .u32 (CR (X % Y))]):=by
 refine Ct.of func188 rfl (by kernel_rfl) rfl fun c0=>ER 0 rfl fun hlen=>ER 1 rfl fun hlen2=>?_
 have hYl:=Fo (n:=Y)
 have hdX:=D8 X
 have hdY:=D8 Y
 have hmX:=Dt X
 have hmY:=Dt Y
 refine zV (.b rfl<|.b rfl<|.nil) rfl fun g1=>CY (E2 0 1 rfl)<|Dd<|zV (.mm rfl<|.n (zP (TL) (A2 rfl))<|.n (xd rfl)<|.nil) rfl fun g2=>CY (E3 0 1 21 rfl)<|zC<|zh rfl (fun h1=>?_) (fun h1=>?_)<;>have h1':=h1<;>try simp only[CT,Z]at h1
 ·have hlt:X<Y:=IA h1'
  refine zV (.m rfl<|.n (FM Da I1 rfl (.k rfl) (.t rfl) (by omega) (by omega))<|.b rfl<|.z rfl) rfl fun g3=>CY (E2 4 5 rfl)<|De<|zD<|zQ (.cons (.tmp (.t rfl))<|.cons (.tmp (.t rfl))<|.nil) (zM (Dk (.cons (Dr (mk:=Eh .u32))<|.cons zL<|.nil)) ?_)
  exact D3 (by rw[Cn hlt,BH hlt,Fg])
 have hge: ¬X<Y:=Iz h1'
 have hXY:=lL hge
 refine yE<|Dd<|zV (.m rfl<|.n (xv Da rfl)<|.n (xd rfl)<|.nil) rfl fun g4=>CY (E3 0 1 26 rfl)<|zC<|zh rfl (fun h2=>?_) (fun h2=>?_)<;>try simp only[CT,Z]at h2
 ·have hy1:=e8 (Y:=Y) (by omega)
  have gy:=hdY.at (k:=((0:Int)).toNat) (by show 0<_;omega)
  rw[hy1]at gy
  have hr0:=Ay (X:Int) (show(Y:Int)≠0 by omega)
  have hr1:=AB (X:Int) (show(0:Int)<Y by omega)
  refine zV (.mm rfl<|.n (yS 0 Da (.t rfl) (.k rfl) (by omega) (by omega))<|.n (xy Fb rfl)<|.n (zP (nf hdX (by omega) (by omega) (by omega)) (A2 rfl))<|.m rfl<|.n (xk rfl)<|.n (xk rfl)<|.a rfl<|.z rfl) rfl fun g5=>CY (E2 6 7 rfl)<|zW (.mm rfl<|.n (xC Da I1 rfl (.g D7 rfl .nil))<|.n (zP (pg (pq (by rw[hmX,hy1];exact hr0) (by rw[hmX,hy1];omega))) (A1 rfl))<|.a rfl<|.z rfl) rfl fun g6=>CY (E2 4 5 rfl)<|De<|zD<|Lt rfl<|D3 (by rw[hmX,hy1,NZ,←Bo,←Cg,Ar,Ar])
 obtain⟨N,hN⟩: ∃ N,(CR Y).length=N+1+1:=⟨(CR Y).length-2,by omega⟩
 obtain⟨S,hS,hS2,hlD,htop⟩:=fo hN
 have gtop:=hdY.at (k:=(((CR Y).length:Int) -1).toNat) (by omega)
 have etop:(((CR Y).length:Int) -1).toNat=N+1:=by omega
 have hlU:=fl (X:=X) hS
 obtain⟨m,hm⟩: ∃ m,(CR X).length+1=m+(N+1+1):=⟨(CR X).length-N-1,by omega⟩
 have hDB:=vS hN hm hlD
 have hsx:=n8 X S
 have hsy:=n8 Y S
 refine yE<|zW (.mm rfl<|.n (xv Da rfl)<|.n (xh rfl (wo (by omega)))<|.n (xx 0 Da rfl (by omega) (by omega))<|.n (xy Fb rfl)<|.n (zP (qC (by omega) (by omega)) (A1 rfl))<|.n (xg KL I8 rfl (show IntKind.u64.wrap (32-(bl ((CR Y).getD (((CR Y).length:Int) -1).toNat 0).toNat:Int))=((S:Nat):Int) by rw[etop,←hS2];exact DD (by omega) (by omega)))<|.z rfl) rfl fun g7=>CY (E3 0 1 8 rfl)<|zW (.mm rfl<|.n (zP (b9 hdY (by omega) (by omega)) (A2 rfl))<|.z rfl) rfl fun g8=>CY (E3 0 8 9 rfl)<|zC<|DS<|zV (.mm rfl<|.w 0 (HO 0 (jX hdX (by omega) (by omega)) (A2 rfl) rfl)<|.n (yX rfl rfl)<|.nil) rfl fun g9=>CZ 0 (E4 0 8 9 10 rfl) rfl<|Dd<|zT<|D4 (α:=Nat×Value) (fun x=>(CR (X*2^S)).length+x.1≤(CR X).length+1) (fun x=>(CR X).length+1-((CR (X*2^S)).length+x.1)) (fun x restR=>(10,CW x.2)::restR) (fun x restS=>DC x.2 (Eh .u32) (CR (X*2^S)++List.replicate x.1 0) 256::restS) (ρc:=[(0,_),(8,_),(9,_)]) (σc:=[]) (0,(g9 52)) (by exact(by show _+0≤_;omega)) (To.pick (fun _=>E4 10 0 8 9 rfl) (fun _=> .sub 0 rfl (yQ (by rw[hsx,List.replicate_zero,List.append_nil];try rfl))<|.nil) (ks:=[0]) rfl) (fun x hI=>?_)
 obtain⟨c,sv⟩:=x
 try simp only at hI
 show J _ _ ((10,CW sv)::_) (DC sv (Eh .u32) (CR (X*2^S)++List.replicate c 0) 256::_) _ _
 have hIp:(CR (X*2^S)).length+c≤(CR X).length+1:=hI
 refine zF<|zV (.m rfl<|.r 0 (EZ 0 Da (.t rfl) rfl)<|.m rfl<|.n (xv Da rfl)<|.n (xo rfl (wo (by omega)))<|.n (xw rfl)<|.nil) rfl fun g10=>CZ 0 (E5 0 8 9 10 58 rfl) rfl<|zC<|zh rfl (fun h3=>?_) (fun h3=>?_)<;>try simp only[CT,Z]at h3
 ·refine yE<|zC<|zT<|(zG [] (.m rfl<|.n (xC Da I1 rfl (.cons rfl (.k rfl) D7 rfl (yU rfl (A8 rfl)) .nil))<|.w 0 (EC (mk:=Eh .u32) 0 Da I1 rfl (.t rfl) (.t rfl) rfl (by omega) (by omega))<|.n (yX rfl rfl)<|.nil) ff rfl fun g11=>CZ 0 (E4 0 8 9 10 rfl) rfl ?_)
  refine zR<|yW (c+1,(g11 61)) (by exact(by show _+(c+1)≤_;rw[As,Am]at h3;omega)) (by show _-(_+(c+1))<_;rw[As,Am]at h3;omega) (To.pick (fun _=>E4 10 0 8 9 rfl) (fun _=> .sub 0 rfl (yQ (by rw[←rq];try rfl))<|.nil) (ks:=[0]) rfl)
 have hIe:=h3
 rw[As,Am]at hIe
 obtain⟨U,hU⟩: ∃ U,U=CR (X*2^S)++List.replicate c 0:=⟨_,rfl⟩
 have hUl:U.length=m+(CR (Y*2^S)).length:=by rw[hU,As,Am];omega
 have hUd:Fm U:=by rw[hU];exact pt (D8 _) c
 have hUm:CX U=((X*2^S:Nat):Int):=by rw[hU,kB,Dt]
 obtain⟨d,hd⟩: ∃ d,d=CR (Y*2^S):=⟨_,rfl⟩
 have hdd:Fm d:=by rw[hd];exact D8 _
 have hdm:CX d=((Y*2^S:Nat):Int):=by rw[hd,Dt]
 have hdl:d.length=N+2:=by rw[hd];exact hlD
 have hD0:0<CX d:=by rw[hdm];exact BJ.2 (Nat.mul_pos hY0 (Ax S))
 have hdt:2147483648≤d.getD (N+1) 0:=by rw[hd];exact htop
 have gdt:=hdd.at (k:=N+1) (by omega)
 have gdx:=hdd.at (k:=((d.length:Int) -1).toNat) (by omega)
 have gd2:=hdd.at (k:=N) (by omega)
 rw[←hd]at hUl
 have hRl:(List.replicate ((U.length:Int) -(d.length:Int)).toNat (0:Int)).length=m:=by rw[Am];omega
 refine D6<|zE<|zE<|zS<|zC<|yN (To.slot 9 rfl (q:=DP .u32 d) (D3 (by rw[hsy,←hd])))<|yN (To.res 0 (r':=DC sv (Eh .u32) U 256) rfl (yQ (by rw[hU])) rfl)<|zV (.m rfl<|.n (xv Da rfl)<|.z rfl) rfl fun g12=>CZ 0 (E4 8 9 10 11 rfl) rfl<|zC<|DS<|zV (.m rfl<|.r 0 (EZ 0 Da (.t rfl) rfl)<|.m rfl<|.n (Eb (.t rfl) (.t rfl) (wo (by omega)))<|.w 1 (DI (mk:=Eh .u32) 0 1 Da I1 rfl (fun _=>⟨rfl,rfl⟩) (.t rfl) (.t rfl) (by omega) (by omega) (by omega) (by omega) rfl)<|.n (yX rfl rfl)<|.nil) rfl fun g13=>nx (E5 8 9 10 11 12 rfl) (R2 0 1 rfl)<|zW (.mm rfl<|.n (xh rfl (wo (by omega)))<|.n (xx 0 Da rfl (by omega) (by omega))<|.n (xy Fb rfl)<|.n (xg DT El rfl (DD gdx.1 (by omega)))<|.z rfl) rfl fun g14=>nx (E6 8 9 10 11 12 13 rfl) (R2 0 1 rfl)<|Dd<|yN (To.slot 13 rfl (q:=CW (.int .u64 (d.getD (N+1) 0))) (D3 (by rw[show((d.length:Int) -1).toNat=N+1 by omega])))<|zV (.m rfl<|.r 1 (EZ 1 Da (.t rfl) rfl)<|.n (xh rfl (wo (by omega)))<|.z rfl) rfl fun g15=>nx (E7 8 9 10 11 12 13 14 rfl) (R2 0 1 rfl)<|zC<|zT<|D4 (α:=Nat×List Int×List Int) (fun x=>ie ((X*2^S:Nat):Int) d x.2.1 x.2.2 m x.1) (fun x=>x.1) (fun x restR=>(14,I6 ((x.1:Int) -1))::restR) (fun x restS=>DC sv (Eh .u32) x.2.1 256::DC (g13 68) (Eh .u32) x.2.2 256::restS) (ρc:=[(8,_),(9,_),(10,_),(11,_),(12,_),(13,_)]) (σc:=[]) (m,U,List.replicate m 0) (by exact(by rw[←hUm];exact lK hUd hUl (by rw[hUm,hdm];exact hDB))) (To.pick (fun _=> .sub (t:=14) rfl (yO (by exact congrArg (fun z=>I6 z) (by rw[Am];omega)))<|E6 8 9 10 11 12 13 rfl) (fun _=> .sub 0 rfl (fun _ _ h=>h)<|.sub 1 rfl (yQ (by rw[show((U.length:Int) -(d.length:Int)).toNat=m by omega]))<|.nil) (ks:=[0,1]) rfl) (fun x hI=>?_)
 obtain⟨k,u,q⟩:=x
 try simp only at hI
 show J _ _ ((14,I6 ((k:Int) -1))::_) (DC sv (Eh .u32) u 256::DC (g13 68) (Eh .u32) q 256::_) _ _
 refine zF<|zV (.m rfl<|.n (xd rfl)<|.nil) rfl fun g16=>nx (E8 8 9 10 11 12 13 14 79 rfl) (R2 0 1 rfl)<|zC<|zh rfl (fun h4=>?_) (fun h4=>?_)<;>try simp only[CT,Z]at h4
 ·obtain⟨j,rfl⟩: ∃ j,k=j+1:=⟨k-1,by omega⟩
  clear hmX hmY hDB hsx hsy hUm hlU hXY
  have hIk:=hI.hk
  have hIu:=hI.hul
  have hIq:=hI.hql
  have hIud:=hI.hud
  have ej:(((j+1:Nat):Int) -1).toNat=j:=by omega
  have gu0:=hIud.at (k:=j+(N+2)) (by omega)
  have gu1:=hIud.at (k:=j+(N+1)) (by omega)
  have gu2:=hIud.at (k:=j+N) (by omega)
  obtain⟨hWe,hW0,hW1,_,_⟩:=lE hdd hI (by omega)
  have hDW:=rj hdd hI (by omega) hdl hdt
  obtain⟨T,hT⟩: ∃ T,T=u.getD (j+(N+2)) 0*4294967296+u.getD (j+(N+1)) 0:=⟨_,rfl⟩
  obtain⟨Q,hQ⟩: ∃ Q,Q=Ee u j (d.length+1)/CX d:=⟨_,rfl⟩
  rw[←hT]at hDW
  have hT0:=KJ hDW
  have hTn:0≤T∧T<18446744073709551616:=by omega
  obtain⟨hOs,hQ0,hQ1⟩:=lJ hdd hI (by omega) hD0
  rw[←hQ]at hT0 hQ0 hQ1 hOs
  have rr0:=Ay T (show d.getD (N+1) 0≠0 by omega)
  have rr1:=AB T (show 0<d.getD (N+1) 0 by omega)
  have hQD:Q=Ee u j (d.length+1)/CX d:=hQ
  refine yE<|Dd<|zT<|yN (To.slot 14 rfl (q:=I6 (j:Int)) (D3 (by rw[show(((j+1:Nat):Int) -1)=(j:Int) by omega]))) ?_
  have e0:((j:Int)+(d.length:Int)).toNat=j+(N+2):=by omega
  have e1:((j:Int)+(d.length:Int) -1).toNat=j+(N+1):=by omega
  have e2:((j:Int)+(d.length:Int) -2).toNat=j+N:=by omega
  have e3:((d.length:Int) -2).toNat=N:=by omega
  have gu0e:=gu0
  rw[←e0]at gu0e
  have gu1e:=gu1
  rw[←e1]at gu1e
  have gu2e:=gu2
  rw[←e2]at gu2e
  have gd2e:=gd2
  rw[←e3]at gd2e
  clear gu0 gu1 gu2 gd2 gdx
  refine zF (zG [[],[],[],[1,2],[0,1,2,3],[0,1,2,3,4],[0,1,2,3,4,5],[0,1,2,3,4,5,6],[],[],[],[9,10],[9,10,11],[8,9,10,11,12],[8,9,10,11,12,13],[8,9,10,11,12,13,14],[0,1,2,3,4,5,6,7,8,9,10,11,12,13,14,15],[0,1,2,3,4,5,6,7,8,9,10,11,12,13,14,15,16]] (.mm rfl<|.m rfl<|.n (xq rfl (wo (by omega)))<|.r 0 (xz 0 Da rfl (by omega) (by omega))<|.r 0 (DH 0 0 Fb (.t rfl) rfl (by omega))<|.n (xg DT El rfl (DD gu0e.1 (by omega)))<|.n (GD (.t rfl) (.k rfl) (by omega) rfl)<|.mm rfl<|.m rfl<|.n (xq rfl (wo (by omega)))<|.n (xh rfl (wo (by omega)))<|.r 0 (xz 0 Da rfl (by omega) (by omega))<|.r 0 (DH 0 0 Fb (.t rfl) rfl (by omega))<|.n (xg DT El rfl (DD gu1e.1 (by omega)))<|.n (Ep (by simp) (.t rfl) (.t rfl) ((q8 gu0e gu1e).trans (show _=T by rw[hT,e0,e1])))<|.z rfl) (fun _=>Di) rfl fun g17=>nx (E8 8 9 10 11 12 13 14 15 rfl) (R2 0 1 rfl) ?_)
  refine zW (.mm rfl<|.n (Gq (.t rfl) (.t rfl) (by omega) (RP hTn.1 hTn.2 (by omega)))<|.z rfl) rfl fun g18=>nx (E9 8 9 10 11 12 13 14 15 16 rfl) (R2 0 1 rfl)<|zW (.mm rfl<|.n (Gr (.t rfl) (.t rfl) (by omega) (tF hTn.1))<|.z rfl) rfl fun g19=>nx (E9 8 9 10 11 12 13 14 16 17 rfl) (R2 0 1 rfl)<|Dd<|zT<|D4 (α:=Int×Int) (fun z=>Si T (d.getD (N+1) 0) (d.getD N 0) (u.getD (j+N) 0) Q z.1 z.2∧z.2<4294967296) (fun z=>(4294967296-z.2).toNat) (fun z restR=>(16,CW (.int .u64 z.1))::(17,CW (.int .u64 z.2))::restR) (fun z restS=>restS) (ρc:=[(8,_),(9,_),(10,_),(11,_),(12,_),(13,_),(14,_)]) (σc:=[_,_]) (T/d.getD (N+1) 0,T % d.getD (N+1) 0) (by exact⟨hT0,by show T % _<_;omega⟩) (Es (fun _=>E9 16 17 8 9 10 11 12 13 14 rfl) fun _=>R2 0 1 rfl) (fun z hJ=>?_)
  obtain⟨g,r⟩:=z
  try simp only at hJ
  show J _ _ ((16,CW (.int .u64 g))::(17,CW (.int .u64 r))::_) (_) _ _
  obtain⟨hJ1,hJ2⟩:=hJ
  have hJq:=hJ1.hq
  have hJg:=hJ1.hg
  have hr0:=hJ1.hr
  have hg0:0≤g:=by omega
  refine zF<|zF (zG [[],[0],[0,1],[0,1,2],[0,1,2],[0,1,2],[0,1,2,5],[0,1,2,4,5,6],[0,1,2,4,5,6,7],[0,1,2,4,5,6,7,8],[0,1,2,3,4,5,6,7,8,9],[0,1,2],[0,1,2,11],[0,1,2],[0,1,2],[0,1,2],[0,1,2,14,15],[0,1,2,14,15,16],[0,1,2,13,14,15,16,17],[0,1,2,13,14,15,16,17,18],[0,1,2,13,14,15,16,17,18,19],[0,1,2,11,12,13,14,15,16,17,18,19,20],[0,1,2,3,4,5,6,7,8,9,10,11,12,13,14,15,16,17,18,19,20,21],[0,1,2,3,4,5,6,7,8,9,10,11,12,13,14,15,16,17,18,19,20,21,22]] (.m rfl<|.n (xd rfl)<|.m rfl<|.n (gu rfl (fun hC=>(xB rfl)))<|.n (gu rfl (fun hC=>(xB rfl)))<|.n (gu rfl (fun hC=>(xB rfl)))<|.n (gu rfl (fun hC=>(Eb (.w rfl hC) (.k rfl) (wo (by omega)))))<|.n (gu rfl (fun hC=>(yS 0 Da (.w rfl hC) (.w rfl hC) (by omega) (by omega))))<|.n (gu rfl (fun hC=>(yC Fb (.w rfl hC) rfl)))<|.n (gu rfl (fun hC=>(yG DT El (.w rfl hC) (DD gd2e.1 (by omega)))))<|.n (gu rfl (fun hC=>(Fi (.w rfl hC) (.w rfl hC) (Ua hC hg0 gd2e))))<|.n (gu rfl (fun hC=>(xB rfl)))<|.n (gu rfl (fun hC=>(GD (.w rfl hC) (.k rfl) (by omega) rfl)))<|.n (gu rfl (fun hC=>(xB rfl)))<|.n (gu rfl (fun hC=>(xB rfl)))<|.n (gu rfl (fun hC=>(xB rfl)))<|.n (gu rfl (fun hC=>(yK (.w rfl hC) (.w rfl hC) (wo (by omega)))))<|.n (gu rfl (fun hC=>(Eb (.w rfl hC) (.k rfl) (wo (by omega)))))<|.r 0 (gu rfl (fun hC=>(yH 0 Da (.w rfl hC) (.w rfl hC) rfl (by omega) (by omega))))<|.r 0 (gu rfl (fun hC=>(DH 0 0 Fb (.w rfl hC) rfl (by omega))))<|.n (gu rfl (fun hC=>(yG DT El (.w rfl hC) (DD gu2e.1 (by omega)))))<|.n (gu rfl (fun hC=>(Ep (by simp) (.w rfl hC) (.w rfl hC) (q8 ⟨hr0,hJ2⟩ gu2e))))<|.n (gu rfl (fun hC=>(oc rfl (.w rfl hC) (.w rfl hC) rfl)))<|.n (Fk (.t rfl) (fun h2=>(.w rfl h2)))<|.nil) (fun _=>Di) rfl fun g20=>nx (I4 8 9 10 11 12 13 14 16 17 128 rfl) (R2 0 1 rfl) ?_)
  refine zC<|zh rfl (fun h5=>?_) (fun h5=>?_)<;>have h5':=h5<;>try simp only[CT,Z]at h5
  ·have hTs:Si T (d.getD (N+1) 0) (d.getD N 0) (u.getD (j+N) 0) Q (g-1) (r+d.getD (N+1) 0):=by have h:=OB hDW (by rw[←hQD];exact hJ1) (by have h:=h5';rw[e2,e3]at h;simpa[CT]using h);rw[←hQD]at h;exact h
   have hTsq:=hTs.hq
   refine yE<|zC<|zT<|zV (.m rfl<|.n (xh rfl (DD (by omega) (by omega)))<|.z rfl) rfl fun g21=>nx (E9 8 9 10 11 12 13 14 16 17 rfl) (R2 0 1 rfl)<|zW (.mm rfl<|.n (xq rfl (DD (by omega) (by omega)))<|.z rfl) rfl fun g22=>nx (E9 8 9 10 11 12 13 14 16 17 rfl) (R2 0 1 rfl)<|zW (.m rfl<|.n (xd rfl)<|.nil) rfl fun g23=>nx (I4 8 9 10 11 12 13 14 16 17 135 rfl) (R2 0 1 rfl)<|zC<|zh rfl (fun h6=>?_) (fun h6=>?_)<;>have h6':=h6<;>try simp only[CT,Z]at h6
   ·have hgd:g-1≤Q+1:=by have h:=XQ hDW (by rw[←hQD];exact hTs) (by omega) (.inl (by have h:=h6';simp[CT]at h;omega));rw[←hQD]at h;exact h
    have hV:=ke (u:=u) (d:=d) (j:=j) hD0 (g:=g-1) hW1 hW0 (by rw[←hQD];exact hTsq) (by rw[←hQD];exact hgd)
    rw[←hQD]at hV
    have hll:(Sm u d j (g-1)).length=u.length:=Gv (by omega)
    refine D6<|Hl rfl<|zE<|zS<|Dd<|zV (.mm rfl<|.mm rfl<|.w 0 (CV 0 (bd hIud hdd (by omega) (by omega) (by omega) (by omega)) (A4 rfl) rfl)<|.nil) rfl fun g24=>nx (E9 8 9 10 11 12 13 14 16 140 rfl) (R2 0 1 rfl)<|zC<|zh rfl (fun h7=>?_) (fun h7=>?_)<;>have h7':=h7<;>try simp only[CT,Z]at h7
    ·have hneg:=of_decide_eq_true h7'
     have hgQ:=hV.1.1 hneg
     have hve:=hV.2.2 hneg
     refine zV (.m rfl<|.n (xh rfl (DD (by omega) (by omega)))<|.z rfl) rfl fun g25=>nx (E8 8 9 10 11 12 13 14 16 rfl) (R2 0 1 rfl)<|zC<|(zG [] (.mm rfl<|.m rfl<|.w 0 (CV 0 (bB (RO hIud _ _ _) hdd (by rw[Gv (by omega)];omega) (by rw[Gv (by omega)];omega)) (A3 rfl) rfl)<|.nil) ff rfl fun g26=>nx (E8 8 9 10 11 12 13 14 16 rfl) (R2 0 1 rfl) ?_)
     refine zC<|(zG [] (.mm rfl<|.m rfl<|.n (xg El DT rfl (I0 (by omega) (by omega)))<|.r 1 (xz 1 Da rfl (by omega) (by omega))<|.w 1 (xA (mk:=Eh .u32) 1 rfl DY G4 rfl (by omega))<|.nil) ff rfl fun g27=>nx (E7 8 9 10 11 12 13 14 rfl) (R2 0 1 rfl) ?_)
     refine zR<|zC<|(zG [] (.m rfl<|.n (xh rfl (wo (by omega)))<|.z rfl) ff rfl fun g28=>nx (E7 8 9 10 11 12 13 14 rfl) (R2 0 1 rfl) ?_)
     exact yW (j,L6 u j (d.length+1) (Ee u j (d.length+1) % CX d),q.set j Q) (by exact hOs) (by show j<j+1;omega) (To.pick (fun _=>E7 14 8 9 10 11 12 13 rfl) (fun _=> .sub 0 rfl (yQ (by first|exact congrArg (fun z=>DC _ (Eh .u32) z _) (O9 hdd hD0 hIud (by omega) hneg hve)|exact congrArg (fun z=>DC _ (Eh .u32) z _) (Qf (by omega) hneg hve)))<|.sub 1 rfl (yQ (by rw[show((j:Nat):Int).toNat=j by omega];exact congrArg (fun z=>DC _ (Eh .u32) (q.set j z) _) (by omega)))<|.nil) (ks:=[0,1]) rfl)
    have hneg:=of_decide_eq_false h7'
    obtain⟨hgQ,hve⟩:=hV.2.1 hneg
    refine yE<|zC<|(zG [] (.mm rfl<|.m rfl<|.n (xg El DT rfl (I0 (by omega) (by omega)))<|.r 1 (xz 1 Da rfl (by omega) (by omega))<|.w 1 (xA (mk:=Eh .u32) 1 rfl DY G4 rfl (by omega))<|.nil) ff rfl fun g29=>nx (E7 8 9 10 11 12 13 14 rfl) (R2 0 1 rfl) ?_)
    refine zR<|zC<|(zG [] (.m rfl<|.n (xh rfl (wo (by omega)))<|.z rfl) ff rfl fun g30=>nx (E7 8 9 10 11 12 13 14 rfl) (R2 0 1 rfl) ?_)
    exact yW (j,L6 u j (d.length+1) (Ee u j (d.length+1) % CX d),q.set j Q) (by exact hOs) (by show j<j+1;omega) (To.pick (fun _=>E7 14 8 9 10 11 12 13 rfl) (fun _=> .sub 0 rfl (yQ (by first|exact congrArg (fun z=>DC _ (Eh .u32) z _) (O9 hdd hD0 hIud (by omega) hneg hve)|exact congrArg (fun z=>DC _ (Eh .u32) z _) (Qf (by omega) hneg hve)))<|.sub 1 rfl (yQ (by rw[show((j:Nat):Int).toNat=j by omega];exact congrArg (fun z=>DC _ (Eh .u32) (q.set j z) _) (by omega)))<|.nil) (ks:=[0,1]) rfl)
   refine yE<|zR<|yW (g-1,r+d.getD (N+1) 0) (by exact⟨hTs,by show r+_<_;omega⟩) (by show(4294967296-(r+d.getD (N+1) 0)).toNat<(4294967296-r).toNat;omega) (Es (fun _=>E9 16 17 8 9 10 11 12 13 14 rfl) fun _=>R2 0 1 rfl)
  have hgd:g≤Q+1:=by have h:=XQ hDW (by rw[←hQD];exact hJ1) (by have h:=h5';simp[CT]at h;omega) (.inr (by have h:=h5';rw[e2,e3]at h;simp only[CT,AQ,decide_eq_false_iff_not]at h;have h:=h.2;omega));rw[←hQD]at h;exact h
  have hgb:g≤4294967296:=by have h:=h5';simp[CT]at h;omega
  have hV:=ke (u:=u) (d:=d) (j:=j) hD0 (g:=g) hW1 hW0 (by rw[←hQD];exact hJq) (by rw[←hQD];exact hgd)
  rw[←hQD]at hV
  have hll:(Sm u d j g).length=u.length:=Gv (by omega)
  refine D6<|zE<|zE<|zS<|Dd<|zV (.mm rfl<|.mm rfl<|.w 0 (CV 0 (bd hIud hdd (by omega) (by omega) (by omega) (by omega)) (A4 rfl) rfl)<|.nil) rfl fun g31=>nx (E9 8 9 10 11 12 13 14 16 140 rfl) (R2 0 1 rfl)<|zC<|zh rfl (fun h8=>?_) (fun h8=>?_)<;>have h8':=h8<;>try simp only[CT,Z]at h8
  ·have hneg:=of_decide_eq_true h8'
   have hgQ:=hV.1.1 hneg
   have hve:=hV.2.2 hneg
   refine zV (.m rfl<|.n (xh rfl (DD (by omega) (by omega)))<|.z rfl) rfl fun g32=>nx (E8 8 9 10 11 12 13 14 16 rfl) (R2 0 1 rfl)<|zC<|(zG [] (.mm rfl<|.m rfl<|.w 0 (CV 0 (bB (RO hIud _ _ _) hdd (by rw[Gv (by omega)];omega) (by rw[Gv (by omega)];omega)) (A3 rfl) rfl)<|.nil) ff rfl fun g33=>nx (E8 8 9 10 11 12 13 14 16 rfl) (R2 0 1 rfl) ?_)
   refine zC<|(zG [] (.mm rfl<|.m rfl<|.n (xg El DT rfl (I0 (by omega) (by omega)))<|.r 1 (xz 1 Da rfl (by omega) (by omega))<|.w 1 (xA (mk:=Eh .u32) 1 rfl DY G4 rfl (by omega))<|.nil) ff rfl fun g34=>nx (E7 8 9 10 11 12 13 14 rfl) (R2 0 1 rfl) ?_)
   refine zR<|zC<|(zG [] (.m rfl<|.n (xh rfl (wo (by omega)))<|.z rfl) ff rfl fun g35=>nx (E7 8 9 10 11 12 13 14 rfl) (R2 0 1 rfl) ?_)
   exact yW (j,L6 u j (d.length+1) (Ee u j (d.length+1) % CX d),q.set j Q) (by exact hOs) (by show j<j+1;omega) (To.pick (fun _=>E7 14 8 9 10 11 12 13 rfl) (fun _=> .sub 0 rfl (yQ (by first|exact congrArg (fun z=>DC _ (Eh .u32) z _) (O9 hdd hD0 hIud (by omega) hneg hve)|exact congrArg (fun z=>DC _ (Eh .u32) z _) (Qf (by omega) hneg hve)))<|.sub 1 rfl (yQ (by rw[show((j:Nat):Int).toNat=j by omega];exact congrArg (fun z=>DC _ (Eh .u32) (q.set j z) _) (by omega)))<|.nil) (ks:=[0,1]) rfl)
  have hneg:=of_decide_eq_false h8'
  obtain⟨hgQ,hve⟩:=hV.2.1 hneg
  refine yE<|zC<|(zG [] (.mm rfl<|.m rfl<|.n (xg El DT rfl (I0 (by omega) (by omega)))<|.r 1 (xz 1 Da rfl (by omega) (by omega))<|.w 1 (xA (mk:=Eh .u32) 1 rfl DY G4 rfl (by omega))<|.nil) ff rfl fun g36=>nx (E7 8 9 10 11 12 13 14 rfl) (R2 0 1 rfl) ?_)
  refine zR<|zC<|(zG [] (.m rfl<|.n (xh rfl (wo (by omega)))<|.z rfl) ff rfl fun g37=>nx (E7 8 9 10 11 12 13 14 rfl) (R2 0 1 rfl) ?_)
  exact yW (j,L6 u j (d.length+1) (Ee u j (d.length+1) % CX d),q.set j Q) (by exact hOs) (by show j<j+1;omega) (To.pick (fun _=>E7 14 8 9 10 11 12 13 rfl) (fun _=> .sub 0 rfl (yQ (by first|exact congrArg (fun z=>DC _ (Eh .u32) z _) (O9 hdd hD0 hIud (by omega) hneg hve)|exact congrArg (fun z=>DC _ (Eh .u32) z _) (Qf (by omega) hneg hve)))<|.sub 1 rfl (yQ (by rw[show((j:Nat):Int).toNat=j by omega];exact congrArg (fun z=>DC _ (Eh .u32) (q.set j z) _) (by omega)))<|.nil) (ks:=[0,1]) rfl)
 obtain rfl:k=0:=by omega
 obtain⟨hq1,hq2,hq3⟩:=lH hdd hI hD0
 have hrl:(CR (CX (u.take d.length)).toNat).length≤100000000001:=by rw[hq2,hdm,lM hY0,Ar];exact Ak (N7 (Au _ (Nat.mod_le X Y))) (Ak hlU (by omega))
 have hIu:=hI.hul
 have hIq:=hI.hql
 have hIud:=hI.hud
 have hIqd:=hI.hqd
 refine D6<|zE<|zE<|zS<|zC<|yN (To.freeze 0 (fun _ h=>h) rfl Dz rfl)<|yN (To.freeze 1 (fun _ h=>h) rfl Dz rfl)<|zF (zG [[],[0],[],[],[2,3],[0,1,2,3,4],[],[0,1,2,3,4,5,6],[0,1,2,3,4,5,6,7],[0,1,2,3,4,5,6,7,8]] (.m rfl<|.n (zP (HI hIqd) ⟨(Lk.sub (Ed 0 rfl) (.t rfl)),trivial⟩)<|.mm rfl<|.n (K0 Da (Lk.sub (Ed 1 rfl) (.t rfl)) (.t rfl) (by omega) (by omega))<|.n (zP (HI hq3) (A1 rfl))<|.m rfl<|.n (zP (Oh (D8 _) (by first|omega|exact Ak hrl (by omega)) (by omega)) (A2 rfl))<|.a rfl<|.z rfl) (fun _=>Di) rfl fun g38=>CY (E2 4 5 rfl) ?_)
 refine De<|Lt rfl<|D3 (by rw[hq1,hq2,hdm,vT hY0,lM hY0,vU])
end Go.Proofs.YtgfanjebfjeneaaGreatDoor
