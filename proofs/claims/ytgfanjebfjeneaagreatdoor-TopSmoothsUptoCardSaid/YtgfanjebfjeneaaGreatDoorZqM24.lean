/- Printed by a program of ours (walk.py): walks of Lehmer's steps. -/
import Derived.Test.YtgfanjebfjeneaaGreatDoorZqM1
import Derived.Test.YtgfanjebfjeneaaGreatDoorProg
import Derived.KernelRfl
import Derived.Test.YtgfanjebfjeneaaGreatDoorZqM11
import Derived.Test.YtgfanjebfjeneaaGreatDoorZqM22
import Derived.Test.YtgfanjebfjeneaaGreatDoorZqM23
import Derived.Test.YtgfanjebfjeneaaGreatDoorZqM7
import Derived.Test.YtgfanjebfjeneaaGreatDoorZqM8
import Derived.Test.YtgfanjebfjeneaaGreatDoorZqM3
import Derived.Test.YtgfanjebfjeneaaGreatDoorZqM4
set_option linter.unusedVariables false
set_option linter.unusedSimpArgs false
set_option maxRecDepth 20000
set_option maxHeartbeats 4000000
namespace Go.Proofs.YtgfanjebfjeneaaGreatDoor
open Go Go.Bn Go.Proofs.Tryz
attribute [local irreducible] OpOK
theorem aZ{X at_:Nat}(hX:(CR X).length≤100000000000)(ha:at_≤8000000000000)(hb:X/2^at_<18446744073709551616):Ct prog 233 [DP .u32 (CR X),I6 (at_:Int)] (CW (.int .u64 ((X/2^at_:Nat):Int))):=by
 refine Ct.of func233 rfl (by kernel_rfl) rfl fun c0=>zV (.b rfl<|.nil) rfl fun g1=>CY (E2 0 1 rfl)<|zW (.mm rfl<|.n (xg KL I8 rfl (DD (by omega) (by omega):IntKind.u64.wrap (at_:Int)=((at_:Nat):Int)))<|.n (zP (Oh (D8 _) (by omega) (by omega)) (A2 rfl))<|.z rfl) rfl fun g2=>CY (E1 5 rfl)<|zC<|yN (To.slot 5 rfl (q:=DP .u32 (CR (X/2^at_))) (D3 (congrArg (fun z=>DP .u32 (CR z)) aY)))<|ER 5 rfl fun hlen=>?_
 have hmag:=Dt (X/2^at_)
 have hdl:=D8 (X/2^at_)
 refine zV (.b rfl<|.nil) rfl fun g3=>CY (E2 5 6 rfl)<|Dd<|zV (.m rfl<|.n (xv Da rfl)<|.n (xh rfl (wo (by omega)))<|.z rfl) rfl fun g4=>CY (E3 5 6 7 rfl)<|zC<|zT<|D4 (α:=Nat×Int) (fun z=>hO (CR (X/2^at_)) z.1 z.2) (fun z=>z.1) (fun z restR=>(7,I6 ((z.1:Int) -1))::(6,CW (.int .u64 z.2))::restR) (fun z restS=>restS) (ρc:=[(5,_)]) (σc:=[]) ((CR (X/2^at_)).length,0) (by exact jV _) (Es (fun _=>E3 7 6 5 rfl) fun _=>R0) (fun z hI=>?_)
 obtain⟨k,u⟩:=z
 try simp only at hI
 show J _ _ ((7,I6 ((k:Int) -1))::(6,CW (.int .u64 u))::_) (_) _ _
 refine zF<|zV (.m rfl<|.n (xd rfl)<|.nil) rfl fun g5=>CY (E4 5 6 7 16 rfl)<|zC<|zh rfl (fun h1=>?_) (fun h1=>?_)<;>try simp only[CT,Z]at h1
 ·obtain⟨j,rfl⟩: ∃ j,k=j+1:=⟨k-1,by omega⟩
  have hIk:=hI.hk
  have gl:=hdl.at (k:=(((j+1:Nat):Int) -1).toNat) (by omega)
  have ej:(((j+1:Nat):Int) -1).toNat=j:=by omega
  have hS:=jU hdl (by rw[hmag];omega) hI
  refine yE<|Dd<|zT<|(zG [] (.m rfl<|.n (GD (.t rfl) (.k rfl) (by omega) rfl)<|.mm rfl<|.n (xx 0 Da rfl (by omega) (by omega))<|.n (xy Fb rfl)<|.n (xg DT El rfl (DD (by omega) (by omega)))<|.n (Ep (by simp) (.t rfl) (.t rfl) (q8 (by omega) gl))<|.z rfl) ff rfl fun g6=>CY (E3 5 6 7 rfl) ?_)
  refine zR<|zC<|(zG [] (.m rfl<|.n (xh rfl (wo (by omega)))<|.z rfl) ff rfl fun g7=>CY (E3 5 6 7 rfl) ?_)
  exact yW (j,u*4294967296+(CR (X/2^at_)).getD (((j+1:Nat):Int) -1).toNat 0) (by exact(by show hO (CR (X/2^at_)) j (u*4294967296+(CR (X/2^at_)).getD (((j+1:Nat):Int) -1).toNat 0);rw[ej];exact hS.1)) (by show j<j+1;omega) (Es (fun _=> .sub (t:=7) rfl (yO (by exact congrArg (fun z=>I6 z) (by omega)))<|E2 6 5 rfl) fun _=>R0)
 obtain rfl:k=0:=by omega
 have hu:=hI.hu
 rw[B7,hmag]at hu
 refine D6<|zE<|zE<|zS<|zW (.m rfl<|.z rfl) rfl fun g8=>CY (E1 4 rfl)<|De<|DO rfl<|D3 (by rw[hu])
theorem kP{X Y:Nat}{u v:Int}(hX:(CR X).length≤100000000000)(hY:(CR Y).length≤100000000000)(hu: -1073741824≤u∧u≤1073741824)(hv: -1073741824≤v∧v≤1073741824)(hs:(v≤0∧0≤u)∨(0<v∧u≤0))(h0:0≤u*X+v*Y):Ct prog 234 [DP .u32 (CR X),I6 u,DP .u32 (CR Y),I6 v] (DP .u32 (CR (u*X+v*Y).toNat)):=by
 refine Ct.of func234 rfl (by kernel_rfl) rfl fun c0=>zV (.b rfl<|.nil) rfl fun g1=>CY (E4 0 1 2 3 rfl)<|Dd<|zV (.m rfl<|.n (xd rfl)<|.nil) rfl fun g2=>CY (E5 0 1 2 3 10 rfl)<|zC<|zh rfl (fun h1=>?_) (fun h1=>?_)<;>try simp only[CT,Z]at h1
 ·obtain⟨m1,m2⟩:=kO h0 (by omega) (by omega)
  refine zV (.mm rfl<|.n (xg qh El rfl (show IntKind.u64.wrap u=((u.toNat:Nat):Int) by rw[DD (by omega) (by omega)];omega))<|.mm rfl<|.n (Nh (.t rfl) (wo (by omega)))<|.n (xg qh El rfl (show IntKind.u64.wrap (-v)=(((-v).toNat:Nat):Int) by rw[DD (by omega) (by omega)];omega))<|.n (zP (Tt hX hY (by omega) (by omega) m1) (A4 rfl))<|.z rfl) rfl fun g3=>CY (E1 8 rfl)<|De<|zD<|DO rfl<|D3 (by rw[m2])
 obtain⟨m1,m2⟩:=kO (X:=Y) (Y:=X) (u:=v) (v:=u) (by omega) (by omega) (by omega)
 refine yE<|zW (.mm rfl<|.n (xg qh El rfl (show IntKind.u64.wrap v=((v.toNat:Nat):Int) by rw[DD (by omega) (by omega)];omega))<|.mm rfl<|.n (Nh (.t rfl) (wo (by omega)))<|.n (xg qh El rfl (show IntKind.u64.wrap (-u)=(((-u).toNat:Nat):Int) by rw[DD (by omega) (by omega)];omega))<|.n (zP (Tt hY hX (by omega) (by omega) m1) (A4 rfl))<|.z rfl) rfl fun g4=>CY (E1 8 rfl)<|De<|DO rfl<|D3 (by rw[m2,BU])
theorem nI{x y:Int}(hy0:0≤y)(hyx:y≤x)(hxb:x<4611686018427387904):Ct prog 232 [CW (.int .u64 x),CW (.int .u64 y)] (EP [I6 (N6 (y.toNat+1) (MC x y)).a,I6 (N6 (y.toNat+1) (MC x y)).b,I6 (N6 (y.toNat+1) (MC x y)).c,I6 (N6 (y.toNat+1) (MC x y)).d]):=by
 refine Ct.of func232 rfl (by kernel_rfl) rfl fun c0=>zV (.b rfl<|.b rfl<|.b rfl<|.b rfl<|.nil) rfl fun g1=>CY (E2 0 1 rfl)<|zW (.b rfl<|.b rfl<|.b rfl<|.b rfl<|.nil) rfl fun g2=>CY (E6 0 1 8 9 10 11 rfl)<|zW (.m rfl<|.n (xg El qh rfl (wo (by omega)))<|.m rfl<|.n (xg El qh rfl (wo (by omega)))<|.a rfl<|.z rfl) rfl fun g3=>CY (E6 8 9 10 11 12 13 rfl)<|Dd<|zT<|D4 (α:=Nat×Nu) (fun z=>Yl x y z.1 z.2) (fun z=>z.2.q.toNat) (fun z restR=>(8,I6 z.2.a)::(9,I6 z.2.b)::(10,I6 z.2.c)::(11,I6 z.2.d)::(12,I6 z.2.p)::(13,I6 z.2.q)::restR) (fun z restS=>restS) (ρc:=[]) (σc:=[]) (y.toNat+1,MC x y) (by exact nL hy0 hyx hxb) (Es (fun _=>E6 8 9 10 11 12 13 rfl) fun _=>R0) (fun z hI=>?_)
 obtain⟨F,s⟩:=z
 try simp only at hI
 show J _ _ ((8,I6 s.a)::(9,I6 s.b)::(10,I6 s.c)::(11,I6 s.d)::(12,I6 s.p)::(13,I6 s.q)::_) (_) _ _
 have hB:=nJ hxb hI
 obtain⟨hBa,hBb,hBc,hBd,hBp,hBq,hBpa,hBpb,hBqc,hBqd⟩:=hB
 refine zF<|zV (.mm rfl<|.n (xq rfl (wo (by omega)))<|.n (xd rfl)<|.m rfl<|.n (gu rfl (fun hC=>(xB rfl)))<|.n (gu rfl (fun hC=>(xB rfl)))<|.n (gu rfl (fun hC=>(yK (.w rfl hC) (.w rfl hC) (wo (by omega)))))<|.n (gu rfl (fun hC=>(oc rfl (.w rfl hC) (.k rfl) rfl)))<|.n (EO (.t rfl) (fun h2=>(.w rfl h2)))<|.nil) rfl fun g4=>CY (E7 8 9 10 11 12 13 30 rfl)<|zC<|zh rfl (fun h1=>?_) (fun h1=>?_)<;>have h1':=h1<;>try simp only[CT,Z]at h1
 ·have c1:s.q+s.c≠0:=by have:=h1';simp[CT]at this;omega
  have c2:s.q+s.d≠0:=by have:=h1';simp[CT]at this;omega
  have hq1:=tE (P:=s.p+s.a) (Q:=s.q+s.c) (by omega) (by omega)
  have hq2:=tE (P:=s.p+s.b) (Q:=s.q+s.d) (by omega) (by omega)
  refine yE<|zC<|zT<|zV (.mm rfl<|.n (xq rfl (wo (by omega)))<|.mm rfl<|.n (xq rfl (wo (by omega)))<|.n (Gq (.t rfl) (.t rfl) c1 (zO hq1.1 hq1.2))<|.z rfl) rfl fun g5=>CY (E7 8 9 10 11 12 13 14 rfl)<|Dd<|zV (.mm rfl<|.m rfl<|.n (xq rfl (wo (by omega)))<|.mm rfl<|.n (xq rfl (wo (by omega)))<|.n (Gq (.t rfl) (.t rfl) c2 (zO hq2.1 hq2.2))<|.n (xw rfl)<|.nil) rfl fun g6=>CY (E8 8 9 10 11 12 13 14 46 rfl)<|zC<|zh rfl (fun h2=>?_) (fun h2=>?_)<;>have h2':=h2<;>try simp only[CT,Z]at h2
  ·have hgo:HM s=false:=vm (by have:=h2';simpa[CT,GN]using this)
   have hst:=S7 hI hgo
   refine D6<|zE<|Hl rfl<|zE<|zS<|zW (.mm rfl<|.mm rfl<|.a rfl<|.a rfl<|.a rfl<|.z rfl) rfl fun g7=>CY (E4 4 5 6 7 rfl)<|De<|zQ (.cons (.tmp (.t rfl))<|.cons (.tmp (.t rfl))<|.cons (.tmp (.t rfl))<|.cons (.tmp (.t rfl))<|.nil) (zM (Dk (.cons zL<|.cons zL<|.cons zL<|.cons zL<|.nil)) ?_)
   exact D3 (by rw[←hst])
  have c3:GN s=(s.p+s.b).tdiv (s.q+s.d):=by have:=h2';simpa[CT,GN]using this
  obtain⟨hn1,hn2,hn3,hn4⟩:=a0k hxb hyx hI c1 c2 c3
  unfold GN at hn1 hn2 hn3 hn4
  refine yE<|zW (.mm rfl<|.m rfl<|.n (xu rfl (wo (by omega)))<|.n (Eb (.t rfl) (.t rfl) (wo (by omega)))<|.z rfl) rfl fun g8=>CY (E8 8 9 10 11 12 13 14 15 rfl)<|zW (.mm rfl<|.m rfl<|.n (xu rfl (wo (by omega)))<|.n (Eb (.t rfl) (.t rfl) (wo (by omega)))<|.z rfl) rfl fun g9=>CY (E9 8 9 10 11 12 13 14 15 16 rfl)<|Dd<|zV (.m rfl<|.n (xd rfl)<|.m rfl<|.n (gu rfl (fun hC=>(xB rfl)))<|.n (gu rfl (fun hC=>(oc rfl (.w rfl hC) (.k rfl) rfl)))<|.n (Fk (.t rfl) (fun h2=>(.w rfl h2)))<|.m rfl<|.n (gu rfl (fun hC=>(xB rfl)))<|.n (gu rfl (fun hC=>(oc rfl (.w rfl hC) (.k rfl) rfl)))<|.n (Fk (.t rfl) (fun h2=>(.w rfl h2)))<|.m rfl<|.n (gu rfl (fun hC=>(xB rfl)))<|.n (gu rfl (fun hC=>(oc rfl (.w rfl hC) (.k rfl) rfl)))<|.n (Fk (.t rfl) (fun h2=>(.w rfl h2)))<|.nil) rfl fun g10=>CY (I4 8 9 10 11 12 13 14 15 16 70 rfl)<|zC<|zh rfl (fun h3=>?_) (fun h3=>?_)<;>have h3':=h3<;>try simp only[CT,Z]at h3
  ·have hgo:HM s=false:=vn (by unfold Ja Jb GN;have:=h3';simp[CT]at this;omega)
   have hst:=S7 hI hgo
   refine D6<|zE<|Hl rfl<|zE<|zS<|zW (.mm rfl<|.mm rfl<|.a rfl<|.a rfl<|.a rfl<|.z rfl) rfl fun g11=>CY (E4 4 5 6 7 rfl)<|De<|zQ (.cons (.tmp (.t rfl))<|.cons (.tmp (.t rfl))<|.cons (.tmp (.t rfl))<|.cons (.tmp (.t rfl))<|.nil) (zM (Dk (.cons zL<|.cons zL<|.cons zL<|.cons zL<|.nil)) ?_)
   exact D3 (by rw[←hst])
  have hgo:HM s=true:=vo c1 c2 c3 (by unfold Ja Jb GN;have:=h3';simp[CT]at this;omega)
  obtain⟨hS,hSq⟩:=nK hy0 hyx hxb hI hgo
  have hBn:=(nJ hxb hS).q
  refine yE<|zW (.mm rfl<|.a rfl<|.z rfl) rfl fun g12=>CY (E7 8 10 11 12 13 14 16 rfl)<|zW (.mm rfl<|.a rfl<|.z rfl) rfl fun g13=>CY (E7 8 9 10 11 12 13 14 rfl)<|zC<|(zG [] (.mm rfl<|.mm rfl<|.n (xu rfl (wo (by omega)))<|.n (Eb (.t rfl) (.t rfl) (wo (by omega)))<|.a rfl<|.z rfl) ff rfl fun g14=>CY (E6 8 9 10 11 12 13 rfl) ?_)
  refine zR<|yW (F-1,Ku s) (by exact hS) (by show(Ku s).q.toNat<s.q.toNat;omega) (Es (fun _=>E6 8 9 10 11 12 13 rfl) fun _=>R0)
 have hgo:HM s=false:=vk (by have:=h1';simp[CT]at this;omega)
 have hst:=S7 hI hgo
 refine D6<|zE<|zE<|zS<|zW (.mm rfl<|.mm rfl<|.a rfl<|.a rfl<|.a rfl<|.z rfl) rfl fun g15=>CY (E4 4 5 6 7 rfl)<|De<|zQ (.cons (.tmp (.t rfl))<|.cons (.tmp (.t rfl))<|.cons (.tmp (.t rfl))<|.cons (.tmp (.t rfl))<|.nil) (zM (Dk (.cons zL<|.cons zL<|.cons zL<|.cons zL<|.nil)) ?_)
 exact D3 (by rw[←hst])
theorem sM{z:Int}(z0:0<z)(z1:z<4294967296):Ct prog 230 [CW (.int .u32 z)] (I6 (GB z.toNat:Int)):=by
 refine Ct.of func230 rfl (by kernel_rfl) rfl fun c0=>?_
 obtain⟨hal,htz⟩:=ZZ z0 z1
 have hdk:=uU _ htz
 obtain⟨K,hK⟩: ∃ K,K=2^GB z.toNat*125613361 % 4294967296:=⟨_,rfl⟩
 obtain⟨I,hI⟩: ∃ I,I=K/134217728:=⟨_,rfl⟩
 rw[←hK,←hI]at hdk
 have hm1:IntKind.u32.wrap (((2^GB z.toNat:Nat):Int)*125613361)=((K:Nat):Int):=by rw[hK];exact pk _
 have hm2:((K:Nat):Int).fdiv (2^min (27:Int).toNat IntKind.u32.bits)=((I:Nat):Int):=by rw[hI];exact a07 _
 obtain⟨J,hJ⟩: ∃ J,J=2^GB z.toNat:=⟨_,rfl⟩
 rw[←hJ]at hal hm1
 clear hK hI hJ
 refine zV (.b rfl<|.nil) rfl fun g1=>CY (E1 0 rfl)<|Dd<|zV (.m rfl<|.n (xd rfl)<|.nil) rfl fun g2=>CY (E2 0 4 rfl)<|zC<|zh rfl (fun h1=>?_) (fun h1=>?_)<;>try simp only[CT,Z]at h1
 ·exact absurd h1 (by omega)
 refine yE<|zW (.mm rfl<|.n (Nh (.t rfl) (wQ z0 z1))<|.n (Ep (by simp) (.t rfl) (.t rfl) hal)<|.n (Fi (.t rfl) (.k rfl) hm1)<|.n (xr rfl (by omega) hm2)<|.n (MF (base:=ZD) xW (fun c _=>⟨wH,.inl rfl,rfl⟩) (.t rfl) (by omega) (by omega))<|.n (yC sc5 (Lk.sub (wI hdk.2) (.t rfl)) rfl)<|.n (xg Pu KL rfl (zO (by rw[hdk.1];omega) (by rw[hdk.1];omega)))<|.z rfl) rfl fun g3=>CY (E1 2 rfl)<|De<|DO rfl<|Dc hdk.1
theorem qY:Ct prog 182 [] (DP .u32 [1]):=by
 refine Ct.of func182 rfl (by kernel_rfl) rfl fun c0=>zV (.b rfl<|.nil) rfl fun g1=>CY (E0)<|zW (.n (xC Da I1 rfl (.cons rfl (.k rfl) D7 rfl (yU rfl (A8 rfl)) .nil))<|.z rfl) rfl fun g2=>CY (E1 0 rfl)<|De<|DO rfl<|zL
theorem Z2:Ct prog 182 [] (DP .u32 (CR 1)):=(by have h:=qY;rw[←kp]at h;exact h)
theorem ZK{b:Bool}{n:Nat}(hn:(CR n).length≤1000000000):Ct prog 183 [Gf [CW (.bool b),DP .u32 (CR n)]] (CW (.int .u64 (GB n:Int))):=by
 refine Ct.of func183 rfl (by kernel_rfl) rfl fun c0=>?_
 have hdn:=D8 n
 refine zV (.b rfl<|.nil) rfl fun g1=>CY (E1 0 rfl)<|Dd<|zV (.b rfl<|.nil) rfl fun g2=>CY (E2 0 3 rfl)<|zC<|zT<|D4 (α:=Nat) (fun k=>k≤(CR n).length∧CX ((CR n).take k)=0) (fun k=>(CR n).length-k) (fun k restR=>(3,I6 (k:Int))::restR) (fun k restS=>restS) (ρc:=[(0,_)]) (σc:=[]) 0 (by exact⟨A7 _,rfl⟩) (Es (fun _=>E2 3 0 rfl) fun _=>R0) (fun k hI=>?_)
 refine zF<|zV (.mm rfl<|.n (xE rfl)<|.n (xF DV rfl)<|.n (xy FF rfl)<|.n (xv Da rfl)<|.n (xw rfl)<|.nil) rfl fun g3=>CY (E3 0 3 10 rfl)<|zC<|zh rfl (fun h1=>?_) (fun h1=>?_)<;>try simp only[CT,Z]at h1
 ·have gl:=hdn.at (k:=((k:Nat):Int).toNat) (by have:=h1;omega)
  refine yE<|Dd<|zT<|zV (.m rfl<|.n (xE rfl)<|.n (xF DV rfl)<|.n (xy FF rfl)<|.m rfl<|.n (xx 0 Da rfl (by omega) (by omega))<|.n (xy Fb rfl)<|.n (xd rfl)<|.nil) rfl fun g4=>CY (E3 0 3 20 rfl)<|zC<|zh rfl (fun h2=>?_) (fun h2=>?_)<;>try simp only[CT,Z]at h2
  ·obtain⟨ht1,ht2⟩:=sO (n:=n) (k:=k) (by have:=h1;omega) hI.2 h2
   have gt:GB ((CR n).getD ((k:Nat):Int).toNat 0).toNat<32:=ht2
   refine zV (.m rfl<|.n (Fi (.k rfl) (.t rfl) (wo (by omega)))<|.m rfl<|.n (xE rfl)<|.n (xF DV rfl)<|.n (xy FF rfl)<|.m rfl<|.n (xx 0 Da rfl (by omega) (by omega))<|.n (xy Fb rfl)<|.n (zP (sM (by have:=gl.1;have:=h2;omega) gl.2) (A1 rfl))<|.n (xq rfl (wo (by omega)))<|.n (xg KL I8 rfl (DD (by omega) (by omega)))<|.z rfl) rfl fun g5=>CY (E1 2 rfl)<|De<|yP<|zD<|zD<|yP<|zD<|DO rfl<|Dc (by rw[ht1];show _=((32*k+GB ((CR n).getD ((k:Nat):Int).toNat 0).toNat:Nat):Int);omega)
  have hst:=sQ (n:=n) (k:=k) (by have:=h1;omega) hI.2 h2
  refine yE<|zR<|zC<|(zG [] (.m rfl<|.n (xo rfl (wo (by omega)))<|.z rfl) ff rfl fun g6=>CY (E2 0 3 rfl) ?_)
  exact yW (k+1) (by exact⟨by omega,hst⟩) (by omega) (Es (fun _=>E2 3 0 rfl) fun _=>R0)
 have hno:=sP (n:=n) (k:=k) (by have:=h1;have:=hI.1;omega) hI.2
 refine D6<|zE<|zE<|zS<|zW (.b rfl<|.nil) rfl fun g7=>CY (E1 2 rfl)<|De<|DO rfl<|Dc (by rw[hno];rfl)
theorem aS{n:Nat}(h:Kk (n:Int)):Ct prog 185 [Gf [CW (.bool false),DP .u32 (CR n)]] (I6 (bl n:Int)):=(by have h1:=vv h;rw[jC]at h1;exact h1)
theorem Ig{q:Rat}:Ct prog 146 [JL q] (DP .u32 (CR q.den)):=by
 refine Ct.of func146 rfl (by kernel_rfl) rfl fun c0=>?_
 have hden:=q.den_nz
 have hdl:=Fo (n:=q.den)
 refine zV (.b rfl<|.nil) rfl fun g1=>CY (E1 0 rfl)<|Dd<|zV (.m rfl<|.n (xE rfl)<|.n (xF KV rfl)<|.n (xF DV rfl)<|.n (xy FF rfl)<|.n (xv Da rfl)<|.n (xd rfl)<|.nil) rfl fun g2=>CY (E2 0 9 rfl)<|zC<|zh rfl (fun h1=>?_) (fun h1=>?_)<;>try simp only[CT,Z]at h1
 ·exact absurd h1 (fun e=>hden (hdl.1 (by omega)))
 refine yE<|zW (.m rfl<|.n (xE rfl)<|.n (xF KV rfl)<|.n (xF DV rfl)<|.n (xy FF rfl)<|.z rfl) rfl fun g3=>CY (E1 2 rfl)<|De<|DO rfl<|zL
theorem dz{X Y:Nat}(hX:Kk (X:Int))(hY:Kk (Y:Int)):Ct prog 186 [DP .u32 (CR X),DP .u32 (CR Y)] (DP .u32 (CR (Nat.gcd X Y))):=by
 refine Ct.of func186 rfl (by kernel_rfl) rfl fun c0=>zV (.b rfl<|.nil) rfl fun g1=>CY (E2 0 1 rfl)<|Dd<|zV (.mm rfl<|.n (zP (TL) (A2 rfl))<|.n (xd rfl)<|.nil) rfl fun g2=>CY (E3 0 1 20 rfl)<|zC<|OJ (ρc:=[]) (ρ1:=[(0,DP .u32 (CR (max X Y))),(1,DP .u32 (CR (min X Y)))]) (σ':=[]) (Es (fun _=> .nil) fun _=>R0) ?_ ?_
 ·skip
  refine zh rfl (fun h1=>?_) (fun h1=>?_)<;>have h1':=h1<;>try simp only[CT,Z]at h1
  ·refine zV (.m rfl<|.z rfl) rfl fun g3=>CY (E2 1 5 rfl)<|zW (.m rfl<|.z rfl) rfl fun g4=>CY (E2 0 5 rfl)<|zC<|(zG [] (.m rfl<|.z rfl) ff rfl fun g5=>CY (E2 0 1 rfl) ?_)
   exact GZ (Es (fun _=> .sub (t:=0) rfl (D3 (by first|rw[Cr (AX (IA h1'))]|rw[Cq (BQ (Iz h1'))]))<|.sub (t:=1) rfl (D3 (by first|rw[At (AX (IA h1'))]|rw[Nat.min_eq_right (BQ (Iz h1'))]))<|.nil) fun _=>R0)
  refine yE<|GZ (Es (fun _=> .sub (t:=0) rfl (D3 (by first|rw[Cr (AX (IA h1'))]|rw[Cq (BQ (Iz h1'))]))<|.sub (t:=1) rfl (D3 (by first|rw[At (AX (IA h1'))]|rw[Nat.min_eq_right (BQ (Iz h1'))]))<|.nil) fun _=>R0)
 skip
 refine zF<|zT<|D4 (α:=Nat×Nat) (fun z=>z.2≤z.1∧Nat.gcd z.1 z.2=Nat.gcd X Y∧Kk (z.1:Int)) (fun z=>z.2) (fun z restR=>(0,DP .u32 (CR z.1))::(1,DP .u32 (CR z.2))::restR) (fun z restS=>restS) (ρc:=[]) (σc:=[]) (max X Y,min X Y) (by exact⟨by omega,jo,vi hX hY⟩) (Es (fun _=>E2 0 1 rfl) fun _=>R0) (fun z hI=>?_)
 obtain⟨x,y⟩:=z
 try simp only at hI
 show J _ _ ((0,DP .u32 (CR x))::(1,DP .u32 (CR y))::_) (_) _ _
 obtain⟨hyx,hgd,hsx⟩:=hI
 have hsy:=Pf hyx hsx
 have hxl:=Jd hsx
 have hyl:=Jd hsy
 refine zF<|zV (.m rfl<|.n (xv Da rfl)<|.n (xd rfl)<|.nil) rfl fun g6=>CY (E3 0 1 26 rfl)<|zC<|zh rfl (fun h2=>?_) (fun h2=>?_)<;>try simp only[CT,Z]at h2
 ·obtain⟨at_,hat⟩:=yl (x:=x) (y:=y) (by have:=h2;omega) hyx
  have hbm:=Yr hxl
  obtain⟨hl1,hl2,hlx,_⟩:=aP hat hyx
  have hlp:=hlx.xp
  have hlb:=hlx.xb
  have hy0:0<y:=AS (fun e=>by have h9:=Fo.2 e;have:=h2;omega)
  obtain⟨s,hs⟩: ∃ s,s=N6 (((y/2^at_:Nat):Int).toNat+1) (MC ((x/2^at_:Nat):Int) ((y/2^at_:Nat):Int)):=⟨_,rfl⟩
  refine yE<|zC<|zT<|DS<|zV (.m rfl<|.n (D1 MS rfl RK (.g FP rfl .nil))<|.w 0 (xa 0 rfl yL rfl)<|.n (yX rfl rfl)<|.nil) rfl fun g7=>CZ 0 (E3 0 1 6 rfl) rfl<|zC<|yN (To.freeze 0 (fun _ h=>h) rfl Dv rfl)<|zV (.m rfl<|.n (zP (aS hsx) ⟨(Lk.sub (DN 0 2 rfl rfl) (.t rfl)),trivial⟩)<|.n (xh rfl (wo (by omega)))<|.z rfl) rfl fun g8=>CY (E3 0 1 7 rfl)<|zC<|yN (To.slot 7 rfl (q:=I6 (at_:Int)) (D3 (by rw[hat];exact congrArg (fun z=>I6 z) (by omega))))<|zV (.mm rfl<|.n (zP (aZ (by omega) (by omega) hl1) (A2 rfl))<|.mm rfl<|.n (zP (aZ (by omega) (by omega) hl2) (A2 rfl))<|.n (zP (nI hlp.1 hlp.2 hlb) (A2 rfl))<|.m rfl<|.n (xk rfl)<|.n (xk rfl)<|.n (xk rfl)<|.n (xk rfl)<|.a rfl<|.a rfl<|.a rfl<|.z rfl) rfl fun g9=>CY (E6 0 1 8 9 10 11 rfl)<|zC<|zF ?_
  rw[←hs]
  refine zV (.m rfl<|.n (xd rfl)<|.nil) rfl fun g10=>CY (E7 0 1 8 9 10 11 46 rfl)<|zC<|zh rfl (fun h3=>?_) (fun h3=>?_)<;>try simp only[CT,Z]at h3
  ·refine zV (.mm rfl<|.n (zP (Qg (by omega) (by omega) hy0) (A2 rfl))<|.m rfl<|.n (xk rfl)<|.n (xk rfl)<|.a rfl<|.z rfl) rfl fun g11=>CY (E2 1 13 rfl)<|zW (.m rfl<|.z rfl) rfl fun g12=>CY (E2 0 13 rfl)<|zW (.m rfl<|.z rfl) rfl fun g13=>CY (E2 0 1 rfl)<|zC<|D6<|zE<|zS<|D5 To.fdrop<|yW (y,x % y) (by first|exact⟨AX (Ap _ hy0),(N4 x y).trans hgd,hsy⟩|exact⟨hG.vu,hG.g.trans hgd,Pf hG.ux hsx⟩) (by first|exact Ap _ hy0|exact hG.vy) (Es (fun _=>E2 0 1 rfl) fun _=>R0)
  have hG:=pV hat hyx hs h3
  have hGa:=hG.a
  have hGb:=hG.b
  have hGc:=hG.c
  have hGd:=hG.d
  have hGu:=hG.u0
  have hGv:=hG.v0
  refine yE<|zW (.mm rfl<|.mm rfl<|.n (zP (kP (by omega) (by omega) hGa hGb hG.s1 hGu) (A4 rfl))<|.z rfl) rfl fun g14=>CY (E5 0 1 10 11 14 rfl)<|zW (.mm rfl<|.mm rfl<|.n (zP (kP (by omega) (by omega) hGc hGd hG.s2 hGv) (A4 rfl))<|.z rfl) rfl fun g15=>CY (E2 1 14 rfl)<|zC<|(zG [] (.m rfl<|.z rfl) ff rfl fun g16=>CY (E2 0 1 rfl) ?_)
  refine zR<|D5 To.fdrop<|yW ((s.a*x+s.b*y).toNat,(s.c*x+s.d*y).toNat) (by first|exact⟨AX (Ap _ hy0),(N4 x y).trans hgd,hsy⟩|exact⟨hG.vu,hG.g.trans hgd,Pf hG.ux hsx⟩) (by first|exact Ap _ hy0|exact hG.vy) (Es (fun _=>E2 0 1 rfl) fun _=>R0)
 refine D6<|zE<|zE<|zS<|Dd<|zT<|D4 (α:=Nat×Nat) (fun z=>z.2≤z.1∧Nat.gcd z.1 z.2=Nat.gcd X Y∧Kk (z.1:Int)) (fun z=>z.2) (fun z restR=>(0,DP .u32 (CR z.1))::(1,DP .u32 (CR z.2))::restR) (fun z restS=>restS) (ρc:=[]) (σc:=[]) (x,y) (by exact⟨hyx,hgd,hsx⟩) (Es (fun _=>E2 0 1 rfl) fun _=>R0) (fun z hI2=>?_)
 obtain⟨x2,y2⟩:=z
 try simp only at hI2
 show J _ _ ((0,DP .u32 (CR x2))::(1,DP .u32 (CR y2))::_) (_) _ _
 obtain⟨hyx2,hgd2,hsx2⟩:=hI2
 have hsy2:=Pf hyx2 hsx2
 have hxl2:=Jd hsx2
 have hyl2:=Jd hsy2
 refine zF<|zV (.m rfl<|.n (xv Da rfl)<|.n (xd rfl)<|.nil) rfl fun g17=>CY (E3 0 1 68 rfl)<|zC<|zh rfl (fun h4=>?_) (fun h4=>?_)<;>try simp only[CT,Z]at h4
 ·have hz0:0<y2:=AS (fun e=>by have h9:=Fo.2 e;have:=h4;omega)
  refine yE<|zC<|zT<|zV (.mm rfl<|.n (zP (Qg (by omega) (by omega) hz0) (A2 rfl))<|.m rfl<|.n (xk rfl)<|.n (xk rfl)<|.a rfl<|.z rfl) rfl fun g18=>CY (E2 1 16 rfl)<|zW (.m rfl<|.z rfl) rfl fun g19=>CY (E2 0 16 rfl)<|zC<|(zG [] (.m rfl<|.z rfl) ff rfl fun g20=>CY (E2 0 1 rfl) ?_)
  refine zR<|yW (y2,x2 % y2) (by exact⟨AX (Ap _ hz0),(N4 x2 y2).trans hgd2,hsy2⟩) (by exact Ap _ hz0) (Es (fun _=>E2 0 1 rfl) fun _=>R0)
 have hz0:y2=0:=Fo.1 (by have:=h4;omega)
 refine D6<|zE<|zE<|zS<|zW (.m rfl<|.n (FM Da I1 rfl (.k rfl) (.t rfl) (by omega) (by omega))<|.z rfl) rfl fun g21=>CY (E1 4 rfl)<|De<|DO rfl<|D3 (by rw[←hgd2,hz0,Nat.gcd_zero_right])
theorem Rf{u:Value}{q0 q1 q2 q3:SP}{b:Bool}{l:List Int}(hd:Fm l):En prog 179 [DW u 0,CW (.bool b),DP .u32 l] (Dh u [q0,q1,q2,q3] 179) (DW u 0) (Dh u [CW (.bool (decide (Ds b (CX l).toNat<0))),DP .u32 (CR (Ds b (CX l).toNat).natAbs),q2,q3] 179):=by
 refine En.of func179 rfl (by kernel_rfl) rfl (CU) fun c0 ob hr0=>zV (.b rfl<|.nil) rfl fun g1=>CZ 0 (E3 0 1 2 rfl) rfl<|zW (.m rfl<|.n (zP (HI hd) (A1 rfl))<|.z rfl) rfl fun g2=>CZ 0 (E3 0 1 2 rfl) rfl<|zW (.mm rfl<|.n (xD rfl)<|.n (xe DV rfl)<|.w 0 (xn 0 rfl FP cJ rfl)<|.nil) rfl fun g3=>CZ 0 (E3 0 1 2 rfl) rfl<|zW (.mm rfl<|.m rfl<|.n (gu rfl (fun hC=>(xB rfl)))<|.n (gu rfl (fun hC=>(yV Da (.w rfl hC))))<|.n (gu rfl (fun hC=>(oc rfl (.w rfl hC) (.k rfl) rfl)))<|.n (EO (.t rfl) (fun h2=>(.w rfl h2)))<|.n (xD rfl)<|.n (xe Fz rfl)<|.w 0 (xn 0 rfl D7 sF rfl)<|.nil) rfl fun g4=>CZ 0 (E1 0 rfl) rfl<|zW (.m rfl<|.z rfl) rfl fun g5=>CZ 0 (E1 6 rfl) rfl<|De<|D5 (To.res 0 (r':=Dh u [CW (.bool (decide (Ds b (CX l).toNat<0))),DP .u32 (CR (Ds b (CX l).toNat).natAbs),q2,q3] 179) rfl (yQ (congrArg (fun cs=>Dh u (cs++ [q2,q3]) 179) (P8 b (CX l).toNat))) rfl)<|Db 0 hr0 (CU) rfl (.cons (.tmp (.t rfl))<|.nil) (zM (yD zL) ?_)
 exact zL
theorem Re{u:Value}{q0 q1 q2 q3:SP}{b:Bool}{l:List Int}(hd:Fm l):En prog 179 [DW u 2,CW (.bool b),DP .u32 l] (Dh u [q0,q1,q2,q3] 179) (DW u 2) (Dh u [q0,q1,CW (.bool (decide (Ds b (CX l).toNat<0))),DP .u32 (CR (Ds b (CX l).toNat).natAbs)] 179):=by
 refine En.of func179 rfl (by kernel_rfl) rfl (CU) fun c0 ob hr0=>zV (.b rfl<|.nil) rfl fun g1=>CZ 0 (E3 0 1 2 rfl) rfl<|zW (.m rfl<|.n (zP (HI hd) (A1 rfl))<|.z rfl) rfl fun g2=>CZ 0 (E3 0 1 2 rfl) rfl<|zW (.mm rfl<|.n (xD rfl)<|.n (xe DV rfl)<|.w 0 (xn 0 rfl FP cJ rfl)<|.nil) rfl fun g3=>CZ 0 (E3 0 1 2 rfl) rfl<|zW (.mm rfl<|.m rfl<|.n (gu rfl (fun hC=>(xB rfl)))<|.n (gu rfl (fun hC=>(yV Da (.w rfl hC))))<|.n (gu rfl (fun hC=>(oc rfl (.w rfl hC) (.k rfl) rfl)))<|.n (EO (.t rfl) (fun h2=>(.w rfl h2)))<|.n (xD rfl)<|.n (xe Fz rfl)<|.w 0 (xn 0 rfl D7 sF rfl)<|.nil) rfl fun g4=>CZ 0 (E1 0 rfl) rfl<|zW (.m rfl<|.z rfl) rfl fun g5=>CZ 0 (E1 6 rfl) rfl<|De<|D5 (To.res 0 (r':=Dh u [q0,q1,CW (.bool (decide (Ds b (CX l).toNat<0))),DP .u32 (CR (Ds b (CX l).toNat).natAbs)] 179) rfl (yQ (congrArg (fun cs=>Dh u ([q0,q1]++cs) 179) (P8 b (CX l).toNat))) rfl)<|Db 0 hr0 (CU) rfl (.cons (.tmp (.t rfl))<|.nil) (zM (yD zL) ?_)
 exact zL
theorem LU{u:Value}{q0 q1 q2 q3:SP}{b:Bool}{A B:Nat}(hA:Kk (A:Int))(hB:Kk (B:Int))(hB0:B≠0):En prog 144 [DW u 0,CW (.bool b),DP .u32 (CR A),DP .u32 (CR B)] (Dh u [q0,q1,q2,q3] 179) (DW u 0) (Dh u (H5 (mkRat (Ds b A) B)) 179):=by
 refine En.of func144 rfl (by kernel_rfl) rfl (CU) fun c0 ob hr0=>?_
 have hAl:=Jd hA
 have hBl:=Jd hB
 have hA0:=Fo (n:=A)
 have htA:=(ZJ hAl).1
 have htB:=(ZJ hBl).1
 have hmp:=OZ b (A:=A) hB0
 refine zV (.b rfl<|.nil) rfl fun g1=>CZ 0 (E4 0 1 2 3 rfl) rfl<|zC<|DS<|zV (.m rfl<|.n (D1 MS rfl RK (.g FP rfl .nil))<|.w 1 (xa 1 rfl yL rfl)<|.n (yX rfl rfl)<|.nil) rfl fun g2=>nx (E5 0 1 2 3 9 rfl) (R2 0 1 rfl)<|zC<|DS<|zV (.m rfl<|.n (D1 MS rfl RK (.g FP rfl .nil))<|.w 2 (xa 2 rfl yL rfl)<|.n (yX rfl rfl)<|.nil) rfl fun g3=>nx (E6 0 1 2 3 9 10 rfl) (R3 0 1 2 rfl)<|Dd<|zV (.m rfl<|.n (xv Da rfl)<|.n (xd rfl)<|.nil) rfl fun g4=>nx (E7 0 1 2 3 9 10 22 rfl) (R3 0 1 2 rfl)<|zC<|zh rfl (fun h1=>?_) (fun h1=>?_)<;>try simp only[CT,Z]at h1
 ·have hAz:A=0:=hA0.1 (by have:=h1;omega)
  refine zV (.m rfl<|.n (xD rfl)<|.n (xe FT rfl)<|.w 0 (CV 0 (Rf TO) ⟨(.t rfl),(.k rfl),(Lk.sub (Dr (mk:=Eh .u32)) (.k rfl)),trivial⟩ rfl)<|.nil) rfl fun g5=>CZ 0 (E1 0 rfl) rfl<|zC<|zF (zG [[],[0],[0,1],[],[0,1,2,3]] (.m rfl<|.n (xD rfl)<|.n (xe KV rfl)<|.n (zP (Z2) trivial)<|.w 0 (CV 0 (Re (D8 _)) ⟨(.t rfl),(.k rfl),(.t rfl),trivial⟩ rfl)<|.nil) (fun _=>Di) rfl fun g6=>CZ 0 (E1 0 rfl) rfl ?_)
  refine zW (.m rfl<|.z rfl) rfl fun g7=>CZ 0 (E1 8 rfl) rfl<|De<|zD<|D5 (To.res 0 (r':=Dh u (H5 (mkRat (Ds b A) B)) 179) rfl (yQ (by have e:=P9 (b:=false) (n:=0) (d:=1) ((bz b B).1.trans (Tq false).symm) (bz b B).2;rw[Fg]at e;rw[hAz];exact(congrArg (fun cs=>Dh u cs 179) (e)))) rfl)<|Db 0 hr0 (CU) rfl (.cons (.tmp (.t rfl))<|.nil) (zM (yD zL) ?_)
  exact zL
 have hAn:A≠0:=fun e=>by have:=hA0.2 e;have:=h1;omega
 refine yE<|zC<|yN (To.freezeM 1 0 hr0 (CU) rfl rfl rfl Dv rfl)<|zV (.m rfl<|.n (zP (ZK hAl) ⟨(Lk.sub (DN 0 2 rfl rfl) (.t rfl)),trivial⟩)<|.z rfl) rfl fun g8=>nx (E6 0 1 2 3 10 11 rfl) (R2 0 2 rfl)<|Dd<|zV (.m rfl<|.r 1 (O5 1 (ZK hBl) (RN _) ⟨.inr ⟨_,(.t rfl),ka⟩,trivial⟩ rfl)<|.z rfl) rfl fun g9=>nx (E7 0 1 2 3 10 11 12 rfl) (R2 0 1 rfl)<|zW (.mm rfl<|.n (xw rfl)<|.nil) rfl fun g10=>nx (E8 0 1 2 3 10 11 12 39 rfl) (R2 0 1 rfl)<|zC<|OJ (ρc:=[(0,_),(1,_),(2,_),(3,_),(10,_)]) (ρ1:=[(11,CW (.int .u64 ((min (GB A) (GB B):Nat):Int)))]) (σ':=[_,_]) (Es (fun _=>E5 0 1 2 3 10 rfl) fun _=>R2 0 1 rfl) ?_ ?_
 ·skip
  refine zh rfl (fun h2=>?_) (fun h2=>?_)<;>try simp only[CT,Z]at h2
  ·refine(zG [] (.m rfl<|.z rfl) ff rfl fun g11=>nx (E6 0 1 2 3 10 11 rfl) (R2 0 1 rfl) ?_)
   exact GZ (Es (fun _=> .sub (t:=11) rfl (D3 (congrArg (fun z=>CW (.int .u64 z)) (by omega)))<|E5 0 1 2 3 10 rfl) fun _=>R2 0 1 rfl)
  refine yE<|GZ (Es (fun _=> .sub (t:=11) rfl (D3 (congrArg (fun z=>CW (.int .u64 z)) (by omega)))<|E5 0 1 2 3 10 rfl) fun _=>R2 0 1 rfl)
 skip
 obtain⟨t,ht⟩: ∃ t,t=min (GB A) (GB B):=⟨_,rfl⟩
 rw[←ht]
 have hbn:(B/2^t)≠0:=(n9 hB0 (by omega)).1
 have hsa:Kk (((A/2^t):Nat):Int):=cC hA
 have hsb:Kk (((B/2^t):Nat):Int):=cC hB
 have hal:=Jd hsa
 have hbl:=Jd hsb
 have hbb:=Yr hbl
 have hbt:=ZJ hbl
 have hbt2:=hbt.2 hbn
 have hgl:(CR (Nat.gcd (A/2^t) (B/2^t))).length≤1000000000:=Jd (Pf (Nat.gcd_le_right _ (AS hbn)) hsb)
 refine zV (.mm rfl<|.n (zP (Oh (D8 _) (by omega) (by omega)) (A2 rfl))<|.z rfl) rfl fun g12=>nx (E6 0 1 2 3 10 11 rfl) (R2 0 1 rfl)<|zC<|yN (To.slot 2 rfl (q:=DP .u32 (CR (A/2^t))) (D3 (congrArg (fun z=>DP .u32 (CR z)) aY)))<|zV (.mm rfl<|.n (zP (Oh (D8 _) (by omega) (by omega)) (A2 rfl))<|.z rfl) rfl fun g13=>nx (E5 0 1 2 3 10 rfl) (R2 0 1 rfl)<|zC<|yN (To.slot 3 rfl (q:=DP .u32 (CR (B/2^t))) (D3 (congrArg (fun z=>DP .u32 (CR z)) aY)))<|zV (.mm rfl<|.n (xD rfl)<|.n (xe DV rfl)<|.w 1 (xn 1 rfl FP cJ rfl)<|.nil) rfl fun g14=>nx (E5 0 1 2 3 10 rfl) (R2 0 1 rfl)<|Dd<|yN (To.freezeM 1 0 hr0 (CU) rfl rfl rfl Dv rfl)<|zV (.m rfl<|.n (zP (ZK hbl) ⟨(Lk.sub (DN 0 2 rfl rfl) (.t rfl)),trivial⟩)<|.n (xg I8 KL rfl (wo (by omega)))<|.m rfl<|.n (zP (aS hsb) ⟨(Lk.sub (DN 0 2 rfl rfl) (.t rfl)),trivial⟩)<|.n (xh rfl (wo (by omega)))<|.n (xw rfl)<|.nil) rfl fun g15=>CZ 0 (E5 0 1 2 3 57 rfl) rfl<|zC<|OJ (ρc:=[(0,_),(1,_)]) (ρ1:=[(2,DP .u32 (CR ((A/2^t)/(Nat.gcd (A/2^t) (B/2^t))))),(3,DP .u32 (CR ((B/2^t)/(Nat.gcd (A/2^t) (B/2^t)))))]) (σ':=[_]) (Es (fun _=>E2 0 1 rfl) fun _=>R1 0 rfl) ?_ ?_
 ·skip
  refine zh rfl (fun h3=>?_) (fun h3=>?_)<;>try simp only[CT,Z]at h3
  ·refine zV (.mm rfl<|.n (zP (dz hsa hsb) (A2 rfl))<|.z rfl) rfl fun g16=>CZ 0 (E5 0 1 2 3 13 rfl) rfl<|zW (.m rfl<|.n (zP (Z2) trivial)<|.n (zP (TL) (A2 rfl))<|.n (xd rfl)<|.nil) rfl fun g17=>CZ 0 (E6 0 1 2 3 13 64 rfl) rfl<|zC<|zh rfl (fun h4=>?_) (fun h4=>?_)<;>try simp only[CT,Z]at h4
   ·have hGn:0<(Nat.gcd (A/2^t) (B/2^t)):=Cp _ (AS hbn)
    refine zV (.mm rfl<|.n (zP (Qg (by omega) (by omega) hGn) (A2 rfl))<|.m rfl<|.n (xk rfl)<|.n (xk rfl)<|.z rfl) rfl fun g18=>CZ 0 (E5 0 1 2 3 13 rfl) rfl<|zC<|(zG [] (.mm rfl<|.n (zP (Qg (by omega) (by omega) hGn) (A2 rfl))<|.m rfl<|.n (xk rfl)<|.n (xk rfl)<|.z rfl) ff rfl fun g19=>CZ 0 (E4 0 1 2 3 rfl) rfl ?_)
    exact GZ (Es (fun _=> .sub (t:=2) rfl (D3 (by first|rw[hG1,By]|rfl))<|.sub (t:=3) rfl (D3 (by first|rw[hG1,By]|rfl))<|E2 0 1 rfl) fun _=>R1 0 rfl)
   have hG1:(Nat.gcd (A/2^t) (B/2^t))=1:=Aj fun e=>ar.2 e (by have:=h4;omega)
   refine yE<|GZ (Es (fun _=> .sub (t:=2) rfl (D3 (by first|rw[hG1,By]|rfl))<|.sub (t:=3) rfl (D3 (by first|rw[hG1,By]|rfl))<|E2 0 1 rfl) fun _=>R1 0 rfl)
  have hG1:(Nat.gcd (A/2^t) (B/2^t))=1:=vh hAn hB0 ht (by have:=h3;omega)
  refine yE<|GZ (Es (fun _=> .sub (t:=2) rfl (D3 (by first|rw[hG1,By]|rfl))<|.sub (t:=3) rfl (D3 (by first|rw[hG1,By]|rfl))<|E2 0 1 rfl) fun _=>R1 0 rfl)
 skip
 refine zV (.m rfl<|.n (xD rfl)<|.n (xe FT rfl)<|.mm rfl<|.w 0 (CV 0 (Rf (D8 _)) (A3 rfl) rfl)<|.nil) rfl fun g20=>CZ 0 (E2 0 3 rfl) rfl<|zW (.m rfl<|.n (xD rfl)<|.n (xe KV rfl)<|.m rfl<|.w 0 (CV 0 (Re (D8 _)) ⟨(.t rfl),(.k rfl),(.t rfl),trivial⟩ rfl)<|.nil) rfl fun g21=>CZ 0 (E1 0 rfl) rfl<|zW (.m rfl<|.z rfl) rfl fun g22=>CZ 0 (E1 8 rfl) rfl<|De<|D5 (To.res 0 (r':=Dh u (H5 (mkRat (Ds b A) B)) 179) rfl (yQ (by exact(congrArg (fun cs=>Dh u cs 179) (P9 (hmp.1.trans (by rw[(VZ hAn hB0 ht).1])) (hmp.2.trans (VZ hAn hB0 ht).2))))) rfl)<|Db 0 hr0 (CU) rfl (.cons (.tmp (.t rfl))<|.nil) (zM (yD zL) ?_)
 exact zL
theorem mz{u:Value}{q0 q1 q2 q3:SP}{x y:Int}(hx:Kk x)(hy:Kk y)(hy0:y≠0):En prog 223 [DW u 0,MB x,MB y] (Dh u [q0,q1,q2,q3] 179) (DW u 0) (Dh u (H5 (mkRat (Ds (decide (x<0) !=decide (y<0)) x.natAbs) y.natAbs)) 179):=by
 refine En.of func223 rfl (by kernel_rfl) rfl (CU) fun c0 ob hr0=>zV (.b rfl<|.nil) rfl fun g1=>CZ 0 (E3 0 1 2 rfl) rfl<|zC<|zF (zG [[],[],[1],[1,2],[1,2,3],[],[5],[5,6],[5,6,7],[1,2,3,4,5,6,7,8],[],[10],[10,11],[10,11,12],[],[14],[14,15],[14,15,16],[0,1,2,3,4,5,6,7,8,9,10,11,12,13,14,15,16,17],[0,1,2,3,4,5,6,7,8,9,10,11,12,13,14,15,16,17,18]] (.mm rfl<|.n (xE rfl)<|.n (xF Fz rfl)<|.n (xy Kg rfl)<|.m rfl<|.n (xE rfl)<|.n (xF Fz rfl)<|.n (xy Kg rfl)<|.n (LO underlying4 (.t rfl) (.t rfl))<|.m rfl<|.n (xE rfl)<|.n (xF DV rfl)<|.n (xy FF rfl)<|.m rfl<|.n (xE rfl)<|.n (xF DV rfl)<|.n (xy FF rfl)<|.w 0 (CV 0 (LU (Qn hx) (Qn hy) (by omega)) (A4 rfl) rfl)<|.z rfl) (fun _=>Di) rfl fun g2=>CZ 0 (E1 6 rfl) rfl ?_)
 refine De<|Db 0 hr0 (CU) rfl (.cons (.tmp (.t rfl))<|.nil) (zM (yD zL) ?_)
 exact zL
theorem rK{u:Value}{q0 q1 q2 q3:SP}{x:Int}(hx:Kk x):En prog 221 [DW u 0,MB x] (Dh u [q0,q1,q2,q3] 179) (DW u 0) (Dh u (H5 (mkRat (Ds (decide (x<0)) x.natAbs) 1)) 179):=by
 refine En.of func221 rfl (by kernel_rfl) rfl (CU) fun c0 ob hr0=>zV (.b rfl<|.nil) rfl fun g1=>CZ 0 (E2 0 1 rfl) rfl<|zC<|zF (zG [[],[],[1],[1,2],[1,2,3],[],[5],[5,6],[5,6,7],[],[0,1,2,3,4,5,6,7,8,9],[0,1,2,3,4,5,6,7,8,9,10]] (.mm rfl<|.n (xE rfl)<|.n (xF Fz rfl)<|.n (xy Kg rfl)<|.m rfl<|.n (xE rfl)<|.n (xF DV rfl)<|.n (xy FF rfl)<|.n (zP (Z2) trivial)<|.w 0 (CV 0 (LU (Qn hx) tS (by omega)) (A4 rfl) rfl)<|.z rfl) (fun _=>Di) rfl fun g2=>CZ 0 (E1 4 rfl) rfl ?_)
 refine De<|Db 0 hr0 (CU) rfl (.cons (.tmp (.t rfl))<|.nil) (zM (yD zL) ?_)
 exact zL
theorem rR{u:Value}{q0 q1 q2 q3:SP}{x:Rat}(hx:JI 1000000000 x):En prog 140 [DW u 0,JL x] (Dh u [q0,q1,q2,q3] 179) (DW u 0) (Dh u (H5 (x)) 179):=by
 refine En.of func140 rfl (by kernel_rfl) rfl (CU) fun c0 ob hr0=>?_
 obtain⟨hxl,hxd⟩:=hx.len (A5 _)
 refine zV (.b rfl<|.nil) rfl fun g1=>CZ 0 (E2 0 1 rfl) rfl<|zW (.m rfl<|.n (xE rfl)<|.n (xF FT rfl)<|.n (xF Fz rfl)<|.n (xy Kg rfl)<|.z rfl) rfl fun g2=>CZ 0 (E3 0 1 5 rfl) rfl<|zW (.m rfl<|.n (xE rfl)<|.n (xF FT rfl)<|.n (xF DV rfl)<|.n (xy FF rfl)<|.n (FM Da I1 rfl (.k rfl) (.t rfl) (by omega) (by omega))<|.z rfl) rfl fun g3=>CZ 0 (E4 0 1 5 6 rfl) rfl<|zW (.m rfl<|.n (zP (Ig) (A1 rfl))<|.n (FM Da I1 rfl (.k rfl) (.t rfl) (by omega) (by omega))<|.z rfl) rfl fun g4=>CZ 0 (E4 0 5 6 7 rfl) rfl<|zW (.m rfl<|.n (xD rfl)<|.n (xe FT rfl)<|.mm rfl<|.w 0 (CV 0 (Rf (D8 _)) (A3 rfl) rfl)<|.nil) rfl fun g5=>CZ 0 (E2 0 7 rfl) rfl<|zW (.m rfl<|.n (xD rfl)<|.n (xe KV rfl)<|.m rfl<|.w 0 (CV 0 (Re (D8 _)) ⟨(.t rfl),(.k rfl),(.t rfl),trivial⟩ rfl)<|.nil) rfl fun g6=>CZ 0 (E1 0 rfl) rfl<|zW (.m rfl<|.z rfl) rfl fun g7=>CZ 0 (E1 4 rfl) rfl<|De<|D5 (To.res 0 (r':=Dh u (H5 (x)) 179) rfl (yQ (by exact(congrArg (fun cs=>Dh u cs 179) (P9 (b:=decide (x.num<0)) (n:=x.num.natAbs) (d:=x.den) Tp.symm rfl)))) rfl)<|Db 0 hr0 (CU) rfl (.cons (.tmp (.t rfl))<|.nil) (zM (yD zL) ?_)
 exact zL
theorem rM{u:Value}{q0 q1 q2 q3:SP}{x y:Rat}(hx:JI 500000000 x)(hy:JI 500000000 y):En prog 143 [DW u 0,JL x,JL y] (Dh u [q0,q1,q2,q3] 179) (DW u 0) (Dh u (H5 (x*y)) 179):=by
 refine En.of func143 rfl (by kernel_rfl) rfl (CU) fun c0 ob hr0=>?_
 obtain⟨hxl,hxd⟩:=hx.len (by omega)
 obtain⟨hyl,hyd⟩:=hy.len (by omega)
 refine zV (.b rfl<|.nil) rfl fun g1=>CZ 0 (E3 0 1 2 rfl) rfl<|zC<|zF (zG [[],[],[1],[1,2],[1,2,3],[1,2,3,4],[],[6],[6,7],[6,7,8],[6,7,8,9],[1,2,3,4,5,6,7,8,9,10],[],[12],[12,13],[12,13,14],[12,13,14,15],[],[17],[17,18],[17,18,19],[17,18,19,20],[12,13,14,15,16,17,18,19,20,21],[],[12,13,14,15,16,17,18,19,20,21,22,23],[],[12,13,14,15,16,17,18,19,20,21,22,23,24,25],[12,13,14,15,16,17,18,19,20,21,22,23,24,25,26],[0,1,2,3,4,5,6,7,8,9,10,11,12,13,14,15,16,17,18,19,20,21,22,23,24,25,26,27],[0,1,2,3,4,5,6,7,8,9,10,11,12,13,14,15,16,17,18,19,20,21,22,23,24,25,26,27,28]] (.mm rfl<|.n (xE rfl)<|.n (xF FT rfl)<|.n (xF Fz rfl)<|.n (xy Kg rfl)<|.m rfl<|.n (xE rfl)<|.n (xF FT rfl)<|.n (xF Fz rfl)<|.n (xy Kg rfl)<|.n (LO underlying4 (.t rfl) (.t rfl))<|.m rfl<|.n (xE rfl)<|.n (xF FT rfl)<|.n (xF DV rfl)<|.n (xy FF rfl)<|.m rfl<|.n (xE rfl)<|.n (xF FT rfl)<|.n (xF DV rfl)<|.n (xy FF rfl)<|.n (zP (HW (D8 _) (D8 _) (by omega) (by omega)) (A2 rfl))<|.m rfl<|.n (zP (Ig) (A1 rfl))<|.m rfl<|.n (zP (Ig) (A1 rfl))<|.n (zP (HW (D8 _) (D8 _) (by omega) (by omega)) (A2 rfl))<|.w 0 (CV 0 (LU (OA hx.a hy.a (by omega)) (OA hx.b hy.b (by omega)) (ZG x.den_nz y.den_nz)) (A4 rfl) rfl)<|.z rfl) (fun _=>Di) rfl fun g2=>CZ 0 (E1 6 rfl) rfl ?_)
 refine De<|D5 (To.res 0 (r':=Dh u (H5 (x*y)) 179) rfl (yQ (by rw[K5,K5,UE])) rfl)<|Db 0 hr0 (CU) rfl (.cons (.tmp (.t rfl))<|.nil) (zM (yD zL) ?_)
 exact zL
theorem rQ{u:Value}{q0 q1 q2 q3:SP}{x y:Rat}(hx:JI 500000000 x)(hy:JI 500000000 y)(hy0:y≠0):En prog 98 [DW u 0,JL x,JL y] (Dh u [q0,q1,q2,q3] 179) (DW u 0) (Dh u (H5 (x/y)) 179):=by
 refine En.of func98 rfl (by kernel_rfl) rfl (CU) fun c0 ob hr0=>?_
 obtain⟨hxl,hxd⟩:=hx.len (by omega)
 obtain⟨hyl,hyd⟩:=hy.len (by omega)
 have hyn:y.num.natAbs≠0:=fun e=>hy0 (Rat.num_eq_zero.1 (by omega))
 refine zV (.b rfl<|.nil) rfl fun g1=>CZ 0 (E3 0 1 2 rfl) rfl<|zC<|zF (zG [[],[],[1],[1,2],[1,2,3],[1,2,3,4],[],[6],[6,7],[6,7,8],[6,7,8,9],[1,2,3,4,5,6,7,8,9,10],[],[12],[12,13],[12,13,14],[12,13,14,15],[],[17],[12,13,14,15,16,17,18],[],[12,13,14,15,16,17,18,19,20],[],[22],[22,23],[22,23,24],[22,23,24,25],[12,13,14,15,16,17,18,19,20,21,22,23,24,25,26],[0,1,2,3,4,5,6,7,8,9,10,11,12,13,14,15,16,17,18,19,20,21,22,23,24,25,26,27],[0,1,2,3,4,5,6,7,8,9,10,11,12,13,14,15,16,17,18,19,20,21,22,23,24,25,26,27,28]] (.mm rfl<|.n (xE rfl)<|.n (xF FT rfl)<|.n (xF Fz rfl)<|.n (xy Kg rfl)<|.m rfl<|.n (xE rfl)<|.n (xF FT rfl)<|.n (xF Fz rfl)<|.n (xy Kg rfl)<|.n (LO underlying4 (.t rfl) (.t rfl))<|.m rfl<|.n (xE rfl)<|.n (xF FT rfl)<|.n (xF DV rfl)<|.n (xy FF rfl)<|.m rfl<|.n (zP (Ig) (A1 rfl))<|.n (zP (HW (D8 _) (D8 _) (by omega) (by omega)) (A2 rfl))<|.m rfl<|.n (zP (Ig) (A1 rfl))<|.m rfl<|.n (xE rfl)<|.n (xF FT rfl)<|.n (xF DV rfl)<|.n (xy FF rfl)<|.n (zP (HW (D8 _) (D8 _) (by omega) (by omega)) (A2 rfl))<|.w 0 (CV 0 (LU (OA hx.a hy.b (by omega)) (OA hx.b hy.a (by omega)) (ZG x.den_nz hyn)) (A4 rfl) rfl)<|.z rfl) (fun _=>Di) rfl fun g2=>CZ 0 (E1 6 rfl) rfl ?_)
 refine De<|D5 (To.res 0 (r':=Dh u (H5 (x/y)) 179) rfl (yQ (by rw[K5,K5,UF hy0])) rfl)<|Db 0 hr0 (CU) rfl (.cons (.tmp (.t rfl))<|.nil) (zM (yD zL) ?_)
 exact zL
theorem QK{u:Value}{q:Rat}:En prog 146 [DW u 0] (Dh u (H5 (q)) 179) (DP .u32 (CR q.den)) (Dh u (H5 (q)) 179):=by
 refine En.of func146 rfl (by kernel_rfl) rfl (CU) fun c0 ob hr0=>?_
 have hden:=q.den_nz
 have hdl:=Fo (n:=q.den)
 refine zV (.b rfl<|.nil) rfl fun g1=>CZ 0 (E1 0 rfl) rfl<|Dd<|zV (.m rfl<|.n (xD rfl)<|.n (xe KV rfl)<|.n (xe DV rfl)<|.r 0 (xf 0 FF rfl zJ rfl)<|.n (xv Da rfl)<|.n (xd rfl)<|.nil) rfl fun g2=>CZ 0 (E2 0 9 rfl) rfl<|zC<|zh rfl (fun h1=>?_) (fun h1=>?_)<;>try simp only[CT,Z]at h1
 ·exact absurd h1 (fun e=>hden (hdl.1 (by omega)))
 refine yE<|zW (.m rfl<|.n (xD rfl)<|.n (xe KV rfl)<|.n (xe DV rfl)<|.r 0 (xf 0 FF rfl zJ rfl)<|.z rfl) rfl fun g3=>CZ 0 (E1 2 rfl) rfl<|De<|Db 0 hr0 (CU) rfl (.cons (.tmp (.t rfl))<|.nil) (zM (yD zL) ?_)
 exact zL
theorem dD{u:Value}{x y:Rat}(hx:JI 225000000 x)(hy:JI 750000000 y):En prog 180 [DW u 0,JL y] (Dh u (H5 (x)) 179) (EP [Gf [CW (.bool (decide (x.num<0))),DP .u32 (CR (CX (CR x.num.natAbs)*CX (CR y.den)).toNat)],Gf [CW (.bool (decide (y.num<0))),DP .u32 (CR (CX (CR y.num.natAbs)*CX (CR x.den)).toNat)]]) (Dh u (H5 (x)) 179):=by
 refine En.of func180 rfl (by kernel_rfl) rfl (CU) fun c0 ob hr0=>?_
 obtain⟨hxl,hxd⟩:=hx.len (by omega)
 obtain⟨hyl,hyd⟩:=hy.len (by omega)
 refine zV (.b rfl<|.b rfl<|.nil) rfl fun g1=>CZ 0 (E2 0 1 rfl) rfl<|zC<|DS<|zF (zG [[],[0],[0,1],[0,1,2],[0,1,2,3],[],[5],[5,6],[5,6,7],[5,6,7,8],[],[10],[5,6,7,8,9,10,11],[0,1,2,3,4,5,6,7,8,9,10,11,12],[0,1,2,3,4,5,6,7,8,9,10,11,12,13],[0,1,2,3,4,5,6,7,8,9,10,11,12,13,14]] (.m rfl<|.n (xD rfl)<|.n (xe FT rfl)<|.n (xe Fz rfl)<|.r 0 (xf 0 Kg rfl zJ rfl)<|.m rfl<|.n (xD rfl)<|.n (xe FT rfl)<|.n (xe DV rfl)<|.r 0 (xf 0 FF rfl zJ rfl)<|.m rfl<|.n (zP (Ig) (A1 rfl))<|.n (zP (HW (D8 _) (D8 _) (by omega) (by omega)) (A2 rfl))<|.n (D1 MS rfl RK (.g D7 rfl (.g FP rfl .nil)))<|.w 1 (xa 1 rfl yL rfl)<|.n (yX rfl rfl)<|.nil) (fun _=>Di) rfl fun g2=>nx (E3 0 1 6 rfl) (R2 0 1 rfl) ?_)
 refine zC<|DS<|zF (zG [[],[0],[0,1],[0,1,2],[0,1,2,3],[],[5],[5,6],[5,6,7],[5,6,7,8],[],[10],[5,6,7,8,9,10,11],[0,1,2,3,4,5,6,7,8,9,10,11,12],[0,1,2,3,4,5,6,7,8,9,10,11,12,13],[0,1,2,3,4,5,6,7,8,9,10,11,12,13,14]] (.m rfl<|.n (xE rfl)<|.n (xF FT rfl)<|.n (xF Fz rfl)<|.n (xy Kg rfl)<|.m rfl<|.n (xE rfl)<|.n (xF FT rfl)<|.n (xF DV rfl)<|.n (xy FF rfl)<|.m rfl<|.w 0 (CV 0 (QK) (A1 rfl) rfl)<|.n (zP (HW (D8 _) (D8 _) (by omega) (by omega)) (A2 rfl))<|.n (D1 MS rfl RK (.g D7 rfl (.g FP rfl .nil)))<|.w 2 (xa 2 rfl yL rfl)<|.n (yX rfl rfl)<|.nil) (fun _=>Di) rfl fun g3=>nx (E2 6 7 rfl) (R3 0 1 2 rfl) ?_)
 refine zW (.mm rfl<|.a rfl<|.z rfl) rfl fun g4=>nx (E2 4 5 rfl) (R3 0 1 2 rfl)<|De<|D5 (To.freezeM 1 0 hr0 (CU) rfl rfl rfl Dv rfl)<|D5 (To.freezeM 2 0 hr0 (CU) rfl rfl rfl Dv rfl)<|Db 0 hr0 (CU) rfl (.cons (.tmp (.t rfl))<|.cons (.tmp (.t rfl))<|.nil) (zM (Dk (.cons (DN 1 2 rfl rfl)<|.cons (DN 0 2 rfl rfl)<|.nil)) ?_)
 exact zL
theorem Xk{x:Rat}:Ct prog 96 [JL x] (I6 (HT x.num)):=by
 refine Ct.of func96 rfl (by kernel_rfl) rfl fun c0=>zV (.b rfl<|.nil) rfl fun g1=>CY (E1 0 rfl)<|zW (.m rfl<|.n (xE rfl)<|.n (xF FT rfl)<|.n (zP (jF) (A1 rfl))<|.z rfl) rfl fun g2=>CY (E1 2 rfl)<|De<|DO rfl<|zL
theorem mU{u:Value}{x y:Rat}(hx:JI 225000000 x)(hy:JI 750000000 y):En prog 142 [DW u 0,DW u 0,JL y] (Dh u (H5 (x)) 179) (DW u 0) (Dh u (H5 (x-y)) 179):=by
 refine En.of func142 rfl (by kernel_rfl) rfl (CU) fun c0 ob hr0=>?_
 obtain⟨hxl,hxd⟩:=hx.len (by omega)
 obtain⟨hyl,hyd⟩:=hy.len (by omega)
 obtain⟨hs1,hs2,hs3⟩:=sm hx hy
 refine zV (.b rfl<|.nil) rfl fun g1=>CZ 0 (E3 0 1 2 rfl) rfl<|zW (.mm rfl<|.w 0 (CV 0 (dD hx hy) (A2 rfl) rfl)<|.m rfl<|.n (xk rfl)<|.n (xk rfl)<|.a rfl<|.z rfl) rfl fun g2=>CZ 0 (E5 0 1 2 7 8 rfl) rfl<|zW (.m rfl<|.w 0 (CV 0 (QK) (A1 rfl) rfl)<|.m rfl<|.n (zP (Ig) (A1 rfl))<|.n (zP (HW (D8 _) (D8 _) (by omega) (by omega)) (A2 rfl))<|.z rfl) rfl fun g3=>CZ 0 (E4 0 7 8 9 rfl) rfl<|zC<|yN (To.slot 7 rfl (q:=MB (x.num*y.den)) (D3 (congrArg Gf (iX x y))))<|yN (To.slot 8 rfl (q:=MB (y.num*x.den)) (D3 (congrArg Gf (iX y x))))<|DS<|zV (.n (D1 MS rfl RK .nil)<|.w 1 (xa 1 rfl yL rfl)<|.n (yX rfl rfl)<|.nil) rfl fun g4=>nx (E5 0 7 8 9 10 rfl) (R2 0 1 rfl)<|zW (.mm rfl<|.m rfl<|.w 1 (CV 1 (qf hs1 hs2) (A3 rfl) rfl)<|.nil) rfl fun g5=>nx (E3 0 9 10 rfl) (R2 0 1 rfl)<|zC<|zF (zG [[],[],[1],[1,2],[1,2,3],[],[5],[5,6],[5,6,7],[],[0,1,2,3,4,5,6,7,8,9],[0,1,2,3,4,5,6,7,8,9,10]] (.mm rfl<|.n (xD rfl)<|.n (xe Fz rfl)<|.r 1 (xf 1 Kg rfl zJ rfl)<|.m rfl<|.n (xD rfl)<|.n (xe DV rfl)<|.r 1 (xf 1 FF rfl zJ rfl)<|.m rfl<|.w 0 (CV 0 (LU (Qn hs3) (OA hx.b hy.b (by omega)) (ZG x.den_nz y.den_nz)) (A4 rfl) rfl)<|.z rfl) (fun _=>Di) rfl fun g6=>CZ 0 (E1 6 rfl) rfl ?_)
 refine De<|D5 (To.res 0 (r':=Dh u (H5 (x-y)) 179) rfl (yQ (by rw[K5,bW])) rfl)<|Db 0 hr0 (CU) rfl (.cons (.tmp (.t rfl))<|.nil) (zM (yD zL) ?_)
 exact zL
theorem rD{x:Nz}(hx:Exf x):Ct prog 177 [pD x] (JL (TU x)):=by
 refine Ct.of func177 rfl (by kernel_rfl) rfl fun c0=>?_
 have hx0:=hx.e0
 have hx1:=hx.e1
 have hxb:=hx.b
 refine DS<|zV (.w 0 (xa 0 rfl yL rfl)<|.b rfl<|.nil) rfl fun g1=>CZ 0 (E1 1 rfl) rfl<|Dd<|zV (.n (xe Q6 rfl)<|.r 0 (xf 0 Ez rfl zJ rfl)<|.n (xd rfl)<|.nil) rfl fun g2=>CZ 0 (E2 1 5 rfl) rfl<|zC<|zh rfl (fun h1=>?_) (fun h1=>?_)<;>try simp only[CT,Z]at h1
 ·refine DS<|zV (.w 1 (xj 1 XZ rfl)<|.r 0 (xc 0 SF rfl zJ rfl)<|.n (zP (sU hxb (by omega) (by omega)) ⟨(.t rfl),(.k rfl),trivial⟩)<|.n (Ur U1 pT mZ (.t rfl) rfl)<|.w 1 (F6 1 rfl rfl (fun u=>rK (nt (aE hx h1))) rfl (A1 rfl))<|.n (yX rfl rfl)<|.nil) rfl fun g3=>CZ 1 (E1 2 rfl) rfl<|De<|zD<|D5 (To.freeze 0 (fun _ h=>h) rfl Dv rfl)<|zQ (.cons (.tmp (.t rfl))<|.nil) (zM (yD (DN 0 4 rfl rfl)) ?_)
  exact D3 (congrArg JL (v9 h1))
 refine yE<|zC<|yN (To.emps 2)<|zF (zG [[],[],[1],[],[],[],[5],[5,6],[5,6,7],[3,4,5,6,7,8],[0,1,2,3,4,5,6,7,8,9],[0,1,2,3,4,5,6,7,8,9,10]] (.w 1 (xj 1 XZ rfl)<|.n (xe U1 rfl)<|.r 0 (xf 0 mZ rfl zJ rfl)<|.w 2 (xj 2 MS rfl)<|.n (zP (eR (n:=1) (by omega)) ⟨(.k rfl),trivial⟩)<|.n (xe Q6 rfl)<|.r 0 (xf 0 Ez rfl zJ rfl)<|.n (Nh (.t rfl) (wo (by omega)))<|.n (xg KL I8 rfl (show IntKind.u64.wrap (-x.e)=(((-x.e).toNat:Nat):Int) by rw[DD (by omega) (by omega)];omega))<|.w 2 (fe 2 rfl rfl (fun u=>aU tS (by omega)) rfl (A2 rfl))<|.w 1 (F6 1 rfl rfl (fun u=>mz hxb.h (se (by omega)) (by have:=(LN (-x.e).toNat).2;omega)) rfl (A2 rfl))<|.n (yX rfl rfl)<|.nil) (fun _=>Di) rfl fun g4=>CZ 1 (E1 2 rfl) rfl ?_)
 refine De<|D5 (To.freeze 0 (fun _ h=>h) rfl Dv rfl)<|zQ (.cons (.tmp (.t rfl))<|.nil) (zM (yD (DN 0 4 rfl rfl)) ?_)
 exact D3 (congrArg JL (jd (by have:=h1;omega)))
theorem rC{x:Nat}(hf:DF x=true):Ct prog 138 [Dm x] (JL (Hc x)):=by
 refine Ct.of func138 rfl (by kernel_rfl) rfl fun c0=>Yc 0 rfl fun hx1 hx2=>zV (.b rfl<|.nil) rfl fun g1=>CY (E1 0 rfl)<|zW (.m rfl<|.n (zP (wR hf) (A1 rfl))<|.n (zP (rD (Uo hf hx1)) (A1 rfl))<|.z rfl) rfl fun g2=>CY (E1 2 rfl)<|De<|DO rfl<|zL
theorem qL{α:Type}{mk:α→SP}(dv:α){r c:Int}{xs:List α}{i j:Int}(h0:0≤i*c+j)(h1:i*c+j<xs.length)(h2: -1000000≤i*c∧i*c≤1000000)(h3:xs.length≤1000000):Ct prog 95 [DL [I6 r,I6 c,I2 mk xs],I6 i,I6 j] (mk (xs.getD (i*c+j).toNat dv)):=by
 refine Ct.of func95 rfl (by kernel_rfl) rfl fun c0=>DS<|zV (.w 0 (xa 0 rfl yL rfl)<|.b rfl<|.nil) rfl fun g1=>CZ 0 (E3 1 2 3 rfl) rfl<|zW (.n (xe JR rfl)<|.r 0 (xf 0 Tj rfl zJ rfl)<|.m rfl<|.n (xe TX rfl)<|.r 0 (xf 0 Ez rfl zJ rfl)<|.n (xu rfl (wo (by omega)))<|.m rfl<|.n (xq rfl (wo (by omega)))<|.n (xx dv PJ rfl (by omega) (by omega))<|.n (xy mY rfl)<|.z rfl) rfl fun g2=>CY (E1 6 rfl)<|De<|DO rfl<|zL
theorem LK{α:Type}{mk:α→SP}(dv:α){r c i j:Nat}{xs:List α}(h1:i*c+j<xs.length)(h3:xs.length≤1000000):Ct prog 95 [DL [I6 (r:Int),I6 (c:Int),I2 mk xs],I6 (i:Int),I6 (j:Int)] (mk (xs.getD (i*c+j) dv)):=(by have e:(i:Int)*(c:Int)+(j:Int)=((i*c+j:Nat):Int):=(by rw[Bf,Ad]);have e2:(i:Int)*(c:Int)=((i*c:Nat):Int):=(by rw[Ad]);have h:=qL (mk:=mk) dv (r:=(r:Int)) (c:=(c:Int)) (xs:=xs) (i:=(i:Int)) (j:=(j:Int)) (by rw[e];omega) (by rw[e];omega) (by rw[e2];omega) h3;rw[e,Ar]at h;exact h)
theorem lk{r c:Int}{xs:List Nat}(hx: ∀ k,k<xs.length→DF (xs.getD k 0)=true)(h9:xs.length≤1000):Ct prog 93 [DL [I6 r,I6 c,Dp xs]] (DL [I6 r,I6 c,I2 JL (xs.map Hc)]):=by
 refine Ct.of func93 rfl (by kernel_rfl) rfl fun c0=>yN (To.emps 2)<|zV (.w 0 (xa 0 rfl yL rfl)<|.w 1 (xj 1 MN rfl)<|.nil) rfl fun g1=>nx (E2 1 2 rfl) (R2 0 1 rfl)<|zC<|DS<|zV (.n (xe Ev rfl)<|.r 0 (xf 0 Ez rfl zJ rfl)<|.n (xe EG rfl)<|.r 0 (xf 0 Ez rfl zJ rfl)<|.n (D1 MN rfl tB (.g D7 rfl (.g D7 rfl .nil)))<|.w 2 (xj 2 MN rfl)<|.w 2 (xm 2 rfl yL PK rfl)<|.nil) rfl fun g2=>nx (E3 1 2 3 rfl) (R3 0 1 2 rfl)<|Dd<|zV (.n (xe Ek rfl)<|.r 0 (xf 0 Eo rfl zJ rfl)<|.n (xv Dl rfl)<|.n (zA (.k rfl))<|.nil) rfl fun g3=>nx (E5 2 3 12 13 14 rfl) (R2 1 2 rfl)<|zC<|zT<|DS<|D4 (α:=Nat×Value) (fun x=>x.1≤xs.length) (fun x=>xs.length-x.1) (fun x restR=>(14,I6 (x.1:Int))::restR) (fun x restS=>DC x.2 JL ((xs.map Hc).take x.1) 172::Dh (g2 3) [I6 r,I6 c,CW x.2] 115::restS) (ρc:=[(2,_),(3,_),(12,_),(13,_)]) (σc:=[_]) (0,.slice none 0 0) (by exact A7 _) (To.pick (fun _=>E5 14 2 3 12 13 rfl) (fun _=> .sub 2 rfl (FA)<|.sub 1 rfl (fun _ _ h=>h)<|.k 0 rfl<|.nil) (ks:=[2,1,0]) rfl) (fun x hI=>?_)
 obtain⟨k,sv⟩:=x
 try simp only at hI
 show J _ _ ((14,I6 (k:Int))::_) (DC sv JL ((xs.map Hc).take k) 172::Dh (g2 3) [I6 r,I6 c,CW sv] 115::_) _ _
 refine zV (.n (xw rfl)<|.nil) rfl fun g4=>nx (E6 2 3 12 13 14 15 rfl) (R3 0 1 2 rfl)<|Dd<|zh rfl (fun h1=>?_) (fun h1=>?_)<;>try simp only[CT,Z]at h1
 ·have hfk:DF (xs.getD ((k:Nat):Int).toNat 0)=true:=hx k (by omega)
  have htl:(List.take k (xs.map Hc)).length=k:=by rw[A9,Az];omega
  refine yE<|Dd<|zT<|zV (.n (xx 0 Dl rfl (by omega) (by omega))<|.n (xy Fp rfl)<|.z rfl) rfl fun g5=>nx (E6 2 3 5 12 13 14 rfl) (R3 0 1 2 rfl)<|zC<|(zG [[],[0],[],[2],[2,3],[0,1,2,3,4],[0,1,2,3,4,5],[0,1,2,3,4,5,6]] (.n (xe JR rfl)<|.r 1 (xf 1 Tj rfl zJ rfl)<|.m rfl<|.n (zP (rC hfk) (A1 rfl))<|.n (xC PJ cQ rfl (.g iR rfl .nil))<|.w 0 (EC (mk:=JL) 0 PJ cQ rfl (.t rfl) (.t rfl) rfl (by omega) (by omega))<|.n (xe JR rfl)<|.w 1 (EJ 1 (.t rfl) rfl tV rfl rfl)<|.nil) (fun _=>Di) rfl fun g6=>nx (E5 2 3 12 13 14 rfl) (R3 0 1 2 rfl) ?_)
  refine zR<|zC<|(zG [] (.n (xo rfl (wo (by omega)))<|.m rfl<|.nil) ff rfl fun g7=>nx (E5 2 3 12 13 14 rfl) (R3 0 1 2 rfl) ?_)
  exact yW (k+1,g6 23) (by exact(show k+1≤xs.length by omega)) (by show xs.length-(_+1)<_;omega) (To.pick (fun _=>E5 14 2 3 12 13 rfl) (fun _=> .sub 0 rfl (yQ (by rw[←Sw 0 (by omega)];rfl))<|.sub 1 rfl (fun _ _ h=>h)<|.k 2 rfl<|.nil) (ks:=[0,1,2]) rfl)
 refine D6<|zE<|zE<|zS<|zW (.r 1 (xc 1 JP rfl zJ rfl)<|.w 2 (xn 2 rfl yL PK rfl)<|.nil) rfl fun g8=>nx (E1 2 rfl) (R2 0 2 rfl)<|De<|D5 (To.freeze 0 (fun _ h=>h) rfl Dz rfl)<|zQ (.cons (.ag 1 (.t rfl) JP rfl rfl rfl)<|.nil) (zM (yD (Dx (.cons zL<|.cons zL<|.cons (Ed 0 rfl)<|.nil))) ?_)
 exact D3 (by rw[AN (by simp;omega)])
end Go.Proofs.YtgfanjebfjeneaaGreatDoor
namespace Go.Bn
open Go
def Cl(k a b:Nat):Prop:= ∃ t,a≤b+t∧b≤a+t∧t*UU≤k*b
section ops
variable {P:Program} {n:Nat} {ops:Array Oper} {Γ:D2} {ρ:DU} {δ:DK} {τ:List VR}
theorem OpOK.subF{o:Oper}{acc:Jg}{p q:SP}{r':VR}(h:OpOK P n ops Γ ρ δ τ o acc (.c p) r')(hg:o.guard=none)(hs: ∀ v c,FH Γ c→p.H v c→q.H v c):OpOK P n ops Γ ρ δ τ o acc (.c q) r':=by
 intro a c ob h1 h2 h3 h4 h5 h6 h7
 have g:=h a c ob h1 h2 h3 h4 h5 h6 h7
 have hw:Region.wanted o (yielded ops a.tmps)=true:=by unfold Region.wanted;rw[hg]
 rw[if_pos hw]at g⊢
 exact g.mono fun v w' ⟨c',ob',e1,e2,e3,e4⟩=>⟨c',ob',e1,e2,hs _ _ (h3.le (e2.le fun b hb=>(h7 b hb).1)) e3,e4⟩
end ops
end Go.Bn
namespace Go.Proofs.YtgfanjebfjeneaaGreatDoor
open Go Go.Bn Go.Proofs.Tryz
attribute [local irreducible] OpOK
theorem Z0{r c:Nat}(h9:r*c≤1000):OH prog 139 [I6 (r:Int),I6 (c:Int)] (ZY 2) (fun u=>DL [I6 (r:Int),I6 (c:Int),CW u]) (fun u=>wV u (r*c) 172 179):=by
 refine OH.of func139 rfl (by kernel_rfl) rfl fun c0=>?_
 have hrc:(r:Int)*(c:Int)=((r*c:Nat):Int):=(Ad r c).symm
 refine DS<|zV (.w 0 (xj 0 MN rfl)<|.nil) rfl fun g1=>CZ 0 (E3 0 1 4 rfl) rfl<|zC<|DS<|zV (.mm rfl<|.n (D1 MN rfl tB (.g D7 rfl (.g D7 rfl .nil)))<|.w 1 (xj 1 MN rfl)<|.w 1 (xm 1 rfl yL PK rfl)<|.nil) rfl fun g2=>nx (E4 0 1 4 5 rfl) (R2 0 1 rfl)<|Dd<|zV (.b rfl<|.nil) rfl fun g3=>nx (E5 0 1 4 5 6 rfl) (R2 0 1 rfl)<|zC<|zT<|yN (To.emps 2)<|D4 (α:=Nat×Value×List Value) (fun x=>x.1≤r*c∧x.2.2.length=x.1) (fun x=>r*c-x.1) (fun x restR=>(6,I6 (x.1:Int))::restR) (fun x restS=>DC x.2.1 CW x.2.2 172::FE x.1 (XX 179 x.2.2)::Dh (g2 5) [I6 (r:Int),I6 (c:Int),CW x.2.1] 115::restS) (ρc:=[(0,_),(1,_),(4,_),(5,_)]) (σc:=[_]) (0,.slice none 0 0,[]) (by exact⟨A7 _,rfl⟩) (To.pick (fun _=>E5 6 0 1 4 5 rfl) (fun _=> .sub 2 rfl (FA)<|.sub 3 rfl (lY)<|.sub 1 rfl (fun _ _ h=>h)<|.k 0 rfl<|.nil) (ks:=[2,3,1,0]) rfl) (fun x hI=>?_)
 obtain⟨k,sv,vs⟩:=x
 try simp only at hI
 show J _ _ ((6,I6 (k:Int))::_) (DC sv CW vs 172::FE k (XX 179 vs)::Dh (g2 5) [I6 (r:Int),I6 (c:Int),CW sv] 115::_) _ _
 have hkn:k≤r*c:=hI.1
 have hvl:vs.length=k:=hI.2
 refine zF<|zV (.mm rfl<|.m rfl<|.n (xu rfl (show IntKind.i64.wrap ((r:Int)*(c:Int))=((r*c:Nat):Int) by rw[hrc];exact zO (by omega) (by omega)))<|.n (xw rfl)<|.nil) rfl fun g4=>nx (E6 0 1 4 5 6 14 rfl) (R4 0 1 2 3 rfl)<|zC<|zh rfl (fun h1=>?_) (fun h1=>?_)<;>try simp only[CT,Z]at h1
 ·refine yE<|Dd<|zT<|DS<|(Sg ?_)
  refine Ha 3 rfl<|(GQ (.n (xe JR rfl)<|.r 2 (xf 2 Tj rfl zJ rfl)<|.w 4 (xj 4 XZ rfl)<|.nil) rfl fun g5=>nx (E7 0 1 4 5 6 18 19 rfl) (R5 0 1 2 3 4 rfl) ?_)
  refine PW 4 rfl KS fun hbp=>D5 (To.slot 19 rfl (q:=CW (g5 19)) (Qa hbp))<|K7<|(GQ (.n (xC PJ cQ rfl (.g D7 rfl .nil))<|.w 0 (EC (mk:=CW) 0 PJ cQ rfl (.t rfl) (.t rfl) rfl (by omega) (by omega))<|.n (xe JR rfl)<|.w 2 (EJ 2 (.t rfl) rfl tV rfl rfl)<|.nil) rfl fun g6=>nx (E5 0 1 4 5 6 rfl) (R5 0 1 2 3 4 rfl) ?_)
  refine zR<|zC<|yN (To.push 1 4 rfl rfl rfl rfl)<|(zG [] (.m rfl<|.n (xo rfl (wo (by omega)))<|.z rfl) ff rfl fun g7=>nx (E5 0 1 4 5 6 rfl) (R4 0 1 2 3 rfl) ?_)
  exact yW (k+1,(g6 21),vs++ [(g5 19)]) (by exact⟨show k+1≤_ by omega,by show(vs++ [_]).length=k+1;rw[As,hvl];rfl⟩) (by show r*c-(_+1)<_;omega) (To.pick (fun _=>E5 6 0 1 4 5 rfl) (fun _=> .sub 0 rfl (fun _ _ h=>h)<|.sub 1 rfl (mg hvl)<|.sub 2 rfl (fun _ _ h=>h)<|.k 3 rfl<|.nil) (ks:=[0,1,2,3]) rfl)
 refine D6<|zE<|zE<|zS<|zW (.r 2 (xc 2 JP rfl zJ rfl)<|.w 3 (xn 3 rfl yL PK rfl)<|.nil) rfl fun g8=>nx (E1 4 rfl) (R3 0 1 3 rfl)<|De<|D5 (To.join 0 1 rfl rfl rfl rfl)<|D5 (To.res 0 (r':=wV sv (r*c) 172 179) rfl (gN (by omega) hvl) rfl)<|HD (u:=sv) 0 rfl rfl (.ag 2 (.t rfl) JP rfl rfl rfl) (OL rfl)<|zL
theorem pe{r c:Nat}{qs:List Rat}(hl:qs.length=r*c)(h9:r*c≤1000)(hq: ∀ m,JI 1000000000 (qs.getD m 0)):OH prog 94 [DL [I6 (r:Int),I6 (c:Int),I2 JL qs]] (ZY 2) (fun u=>DL [I6 (r:Int),I6 (c:Int),CW u]) (fun u=>w6 u qs 172 179):=by
 refine OH.of func94 rfl (by kernel_rfl) rfl fun c0=>yN (To.emps 2)<|zV (.w 0 (xa 0 rfl yL rfl)<|.w 1 (xj 1 MN rfl)<|.nil) rfl fun g1=>nx (E2 1 2 rfl) (R2 0 1 rfl)<|zC<|yN (To.emps 2)<|zV (.n (xe TW rfl)<|.r 0 (xf 0 Ez rfl zJ rfl)<|.n (xe TX rfl)<|.r 0 (xf 0 Ez rfl zJ rfl)<|.w 2 (HO 2 (Z0 (by omega)) (A2 rfl) rfl)<|.w 3 (xj 3 MN rfl)<|.w 3 (Ey 3 rfl rfl rfl (fun f=>yL) (fun f g h=>by rw[h 9 (show 9∈ [9]from by decide)]) (fun _=>PK) rfl (fun _=>rfl) rfl)<|.nil) rfl fun g2=>nx (E3 1 2 3 rfl) (R4 0 1 2 3 rfl)<|Dd<|xK 2 rfl fun vsp=>?_
 obtain⟨vs,hvs⟩:=vsp
 refine DS<|yN (To.res 2 (r':=(DC (ZY 2 (g2 9)) CW vs 172).sep (FE (r*c) (XX 179 vs))) rfl (fun _ _ h=>h) rfl)<|yN (To.split 2 4 rfl rfl rfl rfl)<|zV (.n (xe JR rfl)<|.r 0 (xf 0 Tj rfl zJ rfl)<|.n (xv PJ rfl)<|.n (zA (.k rfl))<|.nil) rfl fun g3=>nx (E5 1 2 3 12 13 rfl) (R5 0 1 2 3 4 rfl)<|zC<|zT<|D4 (α:=Nat) (fun k=>k≤qs.length) (fun k=>qs.length-k) (fun k restR=>(13,I6 (k:Int))::restR) (fun k restS=>FE qs.length (PQ 179 vs qs k)::restS) (ρc:=[(1,_),(2,_),(3,_),(12,_)]) (σc:=[_,_,_,_]) 0 (by exact A7 _) (To.pick (fun _=>E5 13 1 2 3 12 rfl) (fun _=> .sub 4 rfl (hl▸kR)<|.k 0 rfl<|.k 1 rfl<|.k 2 rfl<|.k 3 rfl<|.nil) (ks:=[4,0,1,2,3]) rfl) (fun k hI=>?_)
 refine zV (.n (xw rfl)<|.nil) rfl fun g4=>nx (E6 1 2 3 12 13 14 rfl) (R5 0 1 2 3 4 rfl)<|Dd<|zh rfl (fun h1=>?_) (fun h1=>?_)<;>try simp only[CT,Z]at h1
 ·refine yE<|Dd<|zT<|zV (.m rfl<|.z rfl) rfl fun g5=>nx (E6 1 2 3 4 12 13 rfl) (R5 0 1 2 3 4 rfl)<|zC<|DS<|yN (To.focus 0 5 k (by omega) rfl rfl rfl rfl)<|yN (To.res 5 (r':=Dh (vs.getD k IV) UD 179) rfl (yQ (vH)) rfl)<|Qy 5 rfl KS fun hbp=>(zG [[],[0],[],[0,1,2],[0,1,2,3],[],[5],[],[5,6,7],[5,6,7,8],[0,1,2,3,4,5,6,7,8,9]] (.n (xe JR rfl)<|.r 4 (xf 4 Tj rfl zJ rfl)<|.m rfl<|.r 3 (xz 3 PJ rfl (by omega) (by omega))<|.r 3 (OpOK.subF (DH (mk:=CW) IV 3 mY (.t rfl) rfl (by omega)) rfl (Qb hbp))<|.n (xe JR rfl)<|.r 1 (xf 1 Tj rfl zJ rfl)<|.m rfl<|.n (xx 0 PJ rfl (by omega) (by omega))<|.n (xy mY rfl)<|.w 5 (CV 5 (rR (hq _)) (A2 rfl) rfl)<|.nil) (fun _=>Di) rfl fun g6=>nx (E5 1 2 3 12 13 rfl) (R6 0 1 2 3 4 5 rfl) ?_)
  refine zR<|zC<|yN (To.unfocus 0 5 k (by omega) rfl rfl rfl rfl)<|yN (To.res 0 (r':=FE (qs.length) (PQ 179 vs qs (k+1))) rfl (hl▸kQ) rfl)<|(zG [] (.n (xo rfl (wo (by omega)))<|.m rfl<|.nil) ff rfl fun g7=>nx (E5 1 2 3 12 13 rfl) (R5 0 1 2 3 4 rfl) ?_)
  exact yW (k+1) (by omega) (by omega) (Es (fun _=>E5 13 1 2 3 12 rfl) fun _=>R5 0 1 2 3 4 rfl)
 refine D6<|zE<|zE<|zS<|zW (.r 4 (xc 4 JP rfl zJ rfl)<|.w 2 (xn 2 rfl yL PK rfl)<|.nil) rfl fun g8=>nx (E1 2 rfl) (R3 0 2 3 rfl)<|De<|D5 (To.join 2 0 rfl rfl rfl rfl)<|D5 (To.res 2 (r':=w6 (ZY 2 (g2 9)) qs 172 179) rfl (fG (by omega) (by omega)) rfl)<|HD (u:=(ZY 2 (g2 9))) 2 rfl rfl (.ag 1 (.t rfl) JP rfl rfl rfl) (OL rfl)<|zL
theorem mj{r c i k n:Nat}{vs:List Value}{qs:List Rat}{f:Rat}(hv:vs.length=n)(hl:qs.length=n)(h9:n≤1000)(hi:i*c+c≤n)(hk:k*c+c≤n)(hik:i≠k)(hf:JI 500000000 f)(hA: ∀ j,j<c→JI 225000000 (qs.getD (i*c+j) 0))(hB: ∀ j,j<c→JI 225000000 (qs.getD (k*c+j) 0)):En prog 97 [DL [I6 (r:Int),I6 (c:Int),I2 CW vs],I6 (i:Int),I6 (k:Int),JL f] (FE n (L7 179 vs qs)) (Ge) (FE n (L7 179 vs (J2 qs i k c f c))):=by
 refine En.of func97 rfl (by kernel_rfl) rfl (VT) fun c0 ob hr0=>Qy 0 rfl X0 fun hptr=>DS<|zV (.w 1 (xa 1 rfl yL rfl)<|.nil) rfl fun g1=>nx (E4 1 2 3 4 rfl) (R2 0 1 rfl)<|zW (.b rfl<|.nil) rfl fun g2=>nx (E5 1 2 3 4 8 rfl) (R2 0 1 rfl)<|zC<|zT<|D4 (α:=Nat) (fun j=>j≤c) (fun j=>c-j) (fun j restR=>(8,I6 (j:Int))::restR) (fun j restS=>FE n (L7 179 vs (J2 qs i k c f j))::restS) (ρc:=[(1,_),(2,_),(3,_),(4,_)]) (σc:=[_]) 0 (by exact A7 _) (Es (fun _=>E5 8 1 2 3 4 rfl) fun _=>R2 0 1 rfl) (fun j hI=>?_)
 refine zF<|zV (.m rfl<|.n (xe TX rfl)<|.r 1 (xf 1 Ez rfl zJ rfl)<|.n (xw rfl)<|.nil) rfl fun g3=>nx (E6 1 2 3 4 8 12 rfl) (R2 0 1 rfl)<|zC<|zh rfl (fun h1=>?_) (fun h1=>?_)<;>try simp only[CT,Z]at h1
 ·obtain⟨hX,hY⟩:=bc (qs:=qs) (f:=f) (n:=n) hl hik hi hk (show j<c by omega)
  have hxs:JI 225000000 ((J2 qs i k c f j).getD (i*c+j) 0):=by rw[hX];exact hA j (by omega)
  have hys:JI 225000000 ((J2 qs i k c f j).getD (k*c+j) 0):=by rw[hY];exact hB j (by omega)
  have hll:(J2 qs i k c f j).length=n:=by rw[GU];exact hl
  refine yE<|Dd<|zT<|DS<|(zG [[],[],[],[0,1,2],[],[],[],[0,1,2,3,4,5,6],[],[],[],[],[],[0,1,2,3,4,5,6,7,10,11,12],[0,1,2,3,4,5,6,7,8,9,10,11,12,13],[0,1,2,3,4,5,6,7,8,9,10,11,12,13,14]] (.r 1 (xc 1 JP rfl zJ rfl)<|.mm rfl<|.n (zP (LK (mk:=CW) IV (by omega) (by omega)) (A3 rfl))<|.r 1 (xc 1 JP rfl zJ rfl)<|.mm rfl<|.n (zP (LK (mk:=CW) IV (by omega) (by omega)) (A3 rfl))<|.w 0 (O4 0 XZ rfl rfl)<|.m rfl<|.r 1 (xc 1 JP rfl zJ rfl)<|.mm rfl<|.n (zP (LK (mk:=CW) IV (by omega) (by omega)) (A3 rfl))<|.w 0 (Tb 0 rfl rfl (fun u=>En.two (rM hf (hys.mono (by omega))) (.inl rfl) (.inr (Kt (by omega))) WI) rfl (A2 rfl))<|.w 0 (CV 0 (En.inpool (by omega) (by omega) (mU hxs (cb hf hys (by omega)))) ⟨(Lk.sub (Qb (hptr _ (by omega))) (.t rfl)),(Lk.sub (Qb (hptr _ (by omega))) (.t rfl)),(.t rfl),trivial⟩ rfl)<|.nil) (fun _=>Di) rfl fun g4=>nx (E5 1 2 3 4 8 rfl) (R2 0 1 rfl) ?_)
  refine zR<|zC<|(zG [] (.m rfl<|.n (xo rfl (wo (by omega)))<|.z rfl) ff rfl fun g5=>nx (E5 1 2 3 4 8 rfl) (R2 0 1 rfl) ?_)
  exact yW (j+1) (by omega) (by omega) (To.pick (fun _=>E5 8 1 2 3 4 rfl) (fun _=> .sub 0 rfl (yQ (by rw[hX,hY];rfl))<|.k 1 rfl<|.nil) (ks:=[0,1]) rfl)
 refine D6<|zE<|zE<|zS<|IU<|D5 (To.res 0 (r':=FE n (L7 179 vs (J2 qs i k c f c))) rfl (yQ (by rw[show j=c by omega])) rfl)<|Db 0 hr0 (VT) rfl (.nil) (zM zL ?_)
 exact HS
end Go.Proofs.YtgfanjebfjeneaaGreatDoor
