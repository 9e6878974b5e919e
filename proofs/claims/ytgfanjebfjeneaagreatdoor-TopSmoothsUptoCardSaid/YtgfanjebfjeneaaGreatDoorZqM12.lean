/- Printed by a program of ours (walk.py): walks of the first reference, lists of numbers. -/
import Derived.Test.YtgfanjebfjeneaaGreatDoorZqM1
import Derived.Test.YtgfanjebfjeneaaGreatDoorProg
import Derived.KernelRfl
import Derived.Test.YtgfanjebfjeneaaGreatDoorZqM11
import Derived.Test.YtgfanjebfjeneaaGreatDoorZqM5
import Derived.Test.YtgfanjebfjeneaaGreatDoorZqM7
set_option linter.unusedVariables false
set_option linter.unusedSimpArgs false
set_option maxRecDepth 20000
set_option maxHeartbeats 4000000
namespace Go.Proofs.YtgfanjebfjeneaaGreatDoor
open Go Go.Bn Go.Proofs.Tryz
attribute [local irreducible] OpOK
theorem oU{x:Nat}:Ct prog 99 [Sk x,OI] (I6 (JJ x)):=Ct.bit (Yw (b:=0) (by decide)).1 fun b h1 h2=>(Yw h1).res fun v c h=>by rw[h2]at h;exact h
theorem iQ{x:Nat}:Ct prog 54 [Dm x] (I6 (JJ x)):=by
 refine Ct.of func54 rfl (by kernel_rfl) rfl fun c0=>zV (.b rfl<|.nil) rfl fun g1=>CY (E1 0 rfl)<|zW (.m rfl<|.n (Ik SJ (.t rfl))<|.n (zP (bH) ⟨(.k rfl),trivial⟩)<|.n (zP (oU) (A2 rfl))<|.z rfl) rfl fun g2=>CY (E1 2 rfl)<|De<|DO rfl<|zL
theorem Jj{xs:List Nat}:Ct prog 27 [Dp xs] (CW (.bool (xs.all DF))):=by
 refine Ct.of func27 rfl (by kernel_rfl) rfl fun c0=>ER 0 rfl fun hlen=>zV (.b rfl<|.nil) rfl fun g1=>CY (E1 0 rfl)<|Dd<|zV (.m rfl<|.n (xv Dl rfl)<|.n (zA (.k rfl))<|.nil) rfl fun g2=>CY (E3 6 7 8 rfl)<|zC<|zT<|D4 (α:=Nat) (fun k=>k≤xs.length∧(xs.take k).all DF=true) (fun k=>xs.length-k) (fun k restR=>(8,I6 (k:Int))::restR) (fun k restS=>restS) (ρc:=[(6,_),(7,_)]) (σc:=[]) 0 (by exact⟨A7 _,rfl⟩) (Es (fun _=>E3 8 6 7 rfl) fun _=>R0) (fun k hI=>?_)
 obtain⟨hk,ha⟩:=hI
 refine zV (.n (xw rfl)<|.nil) rfl fun g3=>CY (E4 6 7 8 9 rfl)<|Dd<|zh rfl (fun h1=>?_) (fun h1=>?_)<;>try simp only[CT,Z]at h1
 ·refine yE<|Dd<|zT<|zV (.n (xx 0 Dl rfl (by omega) (by omega))<|.n (xy Fp rfl)<|.z rfl) rfl fun g4=>CY (E4 4 6 7 8 rfl)<|zW (.m rfl<|.n (zP (iQ) (A1 rfl))<|.z rfl) rfl fun g5=>CY (E4 5 6 7 8 rfl)<|zW (.m rfl<|.n (xd rfl)<|.m rfl<|.n (gu rfl (fun hC=>(xB rfl)))<|.n (gu rfl (fun hC=>(oc rfl (.w rfl hC) (.k rfl) rfl)))<|.n (Fk (.t rfl) (fun h2=>(.w rfl h2)))<|.nil) rfl fun g6=>CY (E4 6 7 8 19 rfl)<|zC<|zh rfl (fun h2=>?_) (fun h2=>?_)<;>try simp only[CT,Z]at h2
  ·refine zV (.b rfl<|.nil) rfl fun g7=>CY (E1 2 rfl)<|De<|yP<|zD<|zD<|yP<|zD<|DO rfl<|Ia (iv 0 (by omega:k<xs.length) (by have:= @VD (xs.getD k 0);cases hf:DF (xs.getD k 0)<;>simp_all)).symm
  refine yE<|zR<|zC<|(zG [] (.n (xo rfl (wo (by omega)))<|.m rfl<|.nil) ff rfl fun g8=>CY (E3 6 7 8 rfl) ?_)
  exact yW (k+1) (by exact⟨by omega,Vs 0 (by omega) ha (VD.1 (by simpa using ⟨h2.1,h2.2⟩))⟩) (by omega) (Es (fun _=>E3 8 6 7 rfl) fun _=>R0)
 refine D6<|zE<|zE<|zS<|zW (.b rfl<|.nil) rfl fun g9=>CY (E1 2 rfl)<|De<|DO rfl<|Ia (SG (by omega) ha).symm
theorem rT{x y:Nat}:Ct prog 55 [Dm x,Dm y] (CW (.bool (decide (x=y)))):=by
 refine Ct.of func55 rfl (by kernel_rfl) rfl fun c0=>zV (.b rfl<|.nil) rfl fun g1=>CY (E2 0 1 rfl)<|zW (.m rfl<|.n (Ik SJ (.t rfl))<|.n (zP (bH) ⟨(.k rfl),trivial⟩)<|.n (zP (SK) (A2 rfl))<|.m rfl<|.n (Ik SJ (.t rfl))<|.n (zP (bH) ⟨(.k rfl),trivial⟩)<|.n (zP (SK) (A2 rfl))<|.n (xw rfl)<|.z rfl) rfl fun g2=>CY (E1 4 rfl)<|De<|DO rfl<|Ia (by unfold CT;rw[Bool.eq_iff_iff];simp;omega)
theorem PY{x:Nat}:Ct prog 92 [Dm x] (CW (.int .u64 (x:Int))):=by
 refine Ct.of func92 rfl (by kernel_rfl) rfl fun c0=>Yc 0 rfl fun hx1 hx2=>zV (.b rfl<|.nil) rfl fun g1=>CY (E1 0 rfl)<|Dd<|zV (.mm rfl<|.n (Hk (by simp) (.t rfl) (.t rfl) rfl)<|.nil) rfl fun g2=>CY (E2 0 5 rfl)<|zC<|zh rfl (fun h1=>?_) (fun h1=>?_)<;>have h1':=h1<;>try simp only[CT,Z]at h1
 ·refine zV (.b rfl<|.nil) rfl fun g3=>CY (E1 2 rfl)<|De<|zD<|DO rfl<|Dc (by rw[OQ]at h1';rw[←hx2,Hr h1'];rfl)
 refine yE<|zW (.m rfl<|.n (Ik SJ (.t rfl))<|.z rfl) rfl fun g4=>CY (E1 2 rfl)<|De<|DO rfl<|fun v c _ h=>Vy (by rw[OQ]at h1';exact h1') v c h
theorem fR{x:Nat}:Ct prog 219 [Dm x] (EP [Ge,I6 (FI x:Int),CW (.int .u64 (He x:Int))]):=by
 refine Ct.of func219 rfl (by kernel_rfl) rfl fun c0=>zV (.b rfl<|.b rfl<|.b rfl<|.nil) rfl fun g1=>CY (E1 0 rfl)<|zW (.m rfl<|.n (zP (PY) (A1 rfl))<|.z rfl) rfl fun g2=>CY (E1 5 rfl)<|zW (.m rfl<|.n (xr rfl (by omega) (Jz x 63 (by omega)))<|.n (xd rfl)<|.m rfl<|.n (xr rfl (by omega) (Jz x 52 (by omega)))<|.n (Gr (.t rfl) (.k rfl) (by omega) (show _=((FI x:Nat):Int)from rfl))<|.n (xg El KL rfl (NL x))<|.m rfl<|.n (Gr (.t rfl) (.k rfl) (by omega) (show _=((He x:Nat):Int)from rfl))<|.a rfl<|.a rfl<|.z rfl) rfl fun g3=>CY (E3 2 3 4 rfl)<|De<|zq rfl<|fun _ _ _ ⟨vs,h1,h2⟩=>⟨vs,h1,HL.sub1 h2⟩
theorem uI{e f m:Int}:Ct prog 220 [I6 e,CW (.int .u64 f),I6 m] (I6 (te e f m)):=by
 refine Ct.of func220 rfl (by kernel_rfl) rfl fun c0=>zV (.b rfl<|.nil) rfl fun g1=>CY (E3 0 1 2 rfl)<|Dd<|zT<|zV (.mm rfl<|.n (xw rfl)<|.m rfl<|.n (gu rfl (fun hC=>(xB rfl)))<|.n (gu rfl (fun hC=>(oc rfl (.w rfl hC) (.k rfl) rfl)))<|.n (EO (.t rfl) (fun h2=>(.w rfl h2)))<|.z rfl) rfl fun g2=>CY (E4 0 1 2 7 rfl)<|zC<|zh rfl (fun h1=>?_) (fun h1=>?_)<;>try simp only[CT,Z]at h1
 ·refine zV (.b rfl<|.nil) rfl fun g3=>CY (E1 6 rfl)<|De<|yP<|zD<|DO rfl<|Dc (by unfold te;(repeat' split)<;>omega)
 refine zV (.mm rfl<|.n (xw rfl)<|.z rfl) rfl fun g4=>CY (E3 0 1 15 rfl)<|zC<|zh rfl (fun h2=>?_) (fun h2=>?_)<;>try simp only[CT,Z]at h2
 ·refine zV (.b rfl<|.nil) rfl fun g5=>CY (E1 6 rfl)<|De<|yP<|zD<|DO rfl<|Dc (by unfold te;(repeat' split)<;>omega)
 refine zV (.m rfl<|.n (xd rfl)<|.m rfl<|.n (gu rfl (fun hC=>(xB rfl)))<|.n (gu rfl (fun hC=>(oc rfl (.w rfl hC) (.k rfl) rfl)))<|.n (EO (.t rfl) (fun h2=>(.w rfl h2)))<|.z rfl) rfl fun g6=>CY (E2 0 19 rfl)<|zC<|zh rfl (fun h3=>?_) (fun h3=>?_)<;>try simp only[CT,Z]at h3
 ·refine zV (.b rfl<|.nil) rfl fun g7=>CY (E1 6 rfl)<|De<|yP<|zD<|DO rfl<|Dc (by unfold te;(repeat' split)<;>omega)
 refine zV (.m rfl<|.n (xd rfl)<|.z rfl) rfl fun g8=>CY (E1 26 rfl)<|zC<|zh rfl (fun h4=>?_) (fun h4=>?_)<;>try simp only[CT,Z]at h4
 ·refine zV (.b rfl<|.nil) rfl fun g9=>CY (E1 6 rfl)<|De<|yP<|zD<|DO rfl<|Dc (by unfold te;(repeat' split)<;>omega)
 refine yE<|zR<|zW (.b rfl<|.nil) rfl fun g10=>CY (E1 6 rfl)<|De<|DO rfl<|Dc (by unfold te;(repeat' split)<;>omega)
theorem fH{x:Nat}:Ct prog 176 [Dm x] (I6 (JJ x)):=by
 refine Ct.of func176 rfl (by kernel_rfl) rfl fun c0=>zV (.b rfl<|.nil) rfl fun g1=>CY (E1 0 rfl)<|zW (.m rfl<|.n (zP (fR) (A1 rfl))<|.m rfl<|.n (xk rfl)<|.n (xk rfl)<|.n (xk rfl)<|.a rfl<|.a rfl<|.z rfl) rfl fun g2=>CY (E2 4 5 rfl)<|zW (.mm rfl<|.n (zP (uI) ⟨(.t rfl),(.t rfl),(.k rfl),trivial⟩)<|.z rfl) rfl fun g3=>CY (E1 2 rfl)<|De<|DO rfl<|Dc (oT x)
theorem Zj{x:Nat}:Ct prog 137 [Dm x] (CW (.bool (DF x))):=by
 refine Ct.of func137 rfl (by kernel_rfl) rfl fun c0=>zV (.b rfl<|.nil) rfl fun g1=>CY (E1 0 rfl)<|zW (.m rfl<|.n (zP (fH) (A1 rfl))<|.n (xd rfl)<|.z rfl) rfl fun g2=>CY (E1 2 rfl)<|De<|DO rfl<|Ia uJ
theorem rB{xs:List Nat}:Ct prog 91 [Dp xs] (CW (.bool (xs.all DF))):=by
 refine Ct.of func91 rfl (by kernel_rfl) rfl fun c0=>ER 0 rfl fun hlen=>zV (.b rfl<|.nil) rfl fun g1=>CY (E1 0 rfl)<|Dd<|zV (.m rfl<|.n (xv Dl rfl)<|.n (zA (.k rfl))<|.nil) rfl fun g2=>CY (E3 5 6 7 rfl)<|zC<|zT<|D4 (α:=Nat) (fun k=>k≤xs.length∧(xs.take k).all DF=true) (fun k=>xs.length-k) (fun k restR=>(7,I6 (k:Int))::restR) (fun k restS=>restS) (ρc:=[(5,_),(6,_)]) (σc:=[]) 0 (by exact⟨A7 _,rfl⟩) (Es (fun _=>E3 7 5 6 rfl) fun _=>R0) (fun k hI=>?_)
 obtain⟨hk,ha⟩:=hI
 refine zV (.n (xw rfl)<|.nil) rfl fun g3=>CY (E4 5 6 7 8 rfl)<|Dd<|zh rfl (fun h1=>?_) (fun h1=>?_)<;>try simp only[CT,Z]at h1
 ·refine yE<|Dd<|zT<|zV (.n (xx 0 Dl rfl (by omega) (by omega))<|.n (xy Fp rfl)<|.z rfl) rfl fun g4=>CY (E4 4 5 6 7 rfl)<|zW (.m rfl<|.n (zP (Zj) (A1 rfl))<|.n (EI (.t rfl))<|.nil) rfl fun g5=>CY (E4 5 6 7 13 rfl)<|zC<|zh rfl (fun h2=>?_) (fun h2=>?_)<;>have h2':=h2<;>try simp only[CT,Z]at h2
  ·refine zV (.b rfl<|.nil) rfl fun g6=>CY (E1 2 rfl)<|De<|yP<|zD<|zD<|yP<|zD<|DO rfl<|Ia (iv 0 (by omega:k<xs.length) (by simpa using h2')).symm
  refine yE<|zR<|zC<|(zG [] (.n (xo rfl (wo (by omega)))<|.m rfl<|.nil) ff rfl fun g7=>CY (E3 5 6 7 rfl) ?_)
  exact yW (k+1) (by exact⟨by omega,Vs 0 (by omega) ha (by simpa using h2')⟩) (by omega) (Es (fun _=>E3 7 5 6 rfl) fun _=>R0)
 refine D6<|zE<|zE<|zS<|zW (.b rfl<|.nil) rfl fun g8=>CY (E1 2 rfl)<|De<|DO rfl<|Ia (SG (by omega) ha).symm
theorem mT{x y:Nat}:Ct prog 49 [Dm x,Dm y] (CW (.bool (decide (x=y)))):=by
 refine Ct.of func49 rfl (by kernel_rfl) rfl fun c0=>zV (.b rfl<|.nil) rfl fun g1=>CY (E2 0 1 rfl)<|zW (.m rfl<|.n (zP (PY) (A1 rfl))<|.m rfl<|.n (zP (PY) (A1 rfl))<|.n (xw rfl)<|.z rfl) rfl fun g2=>CY (E1 4 rfl)<|De<|DO rfl<|Ia (by unfold CT;rw[Bool.eq_iff_iff];simp;omega)
theorem Qe{bs:List Nat}(hb: ∀ b,b∈bs→b<2^64)(hl:bs.length*8≤140737488355328):Ct prog 17 [u6 bs] (Dp (bs.map cn)):=by
 refine Ct.of func17 rfl (by kernel_rfl) rfl fun c0=>zV (.b rfl<|.nil) rfl fun g1=>CY (E1 0 rfl)<|zW (.b rfl<|.nil) rfl fun g2=>CY (E2 0 3 rfl)<|Dd<|zV (.m rfl<|.n (xv s6 rfl)<|.n (zA (.k rfl))<|.nil) rfl fun g3=>CY (E4 3 6 7 8 rfl)<|zC<|zT<|DS<|D4 (α:=Nat×Value) (fun x=>x.1≤bs.length) (fun x=>bs.length-x.1) (fun x restR=>(8,I6 (x.1:Int))::(3,CW x.2)::restR) (fun x restS=>DC x.2 Dm ((bs.map cn).take x.1) 53::restS) (ρc:=[(6,_),(7,_)]) (σc:=[]) (0,.slice none 0 0) (by exact A7 _) (To.pick (fun _=>E4 8 3 6 7 rfl) (fun _=> .sub 0 rfl (FA)<|.nil) (ks:=[0]) rfl) (fun x hI=>?_)
 obtain⟨k,sv⟩:=x
 try simp only at hI
 show J _ _ ((8,I6 (k:Int))::(3,CW sv)::_) (DC sv Dm ((bs.map cn).take k) 53::_) _ _
 refine zV (.n (xw rfl)<|.nil) rfl fun g4=>CZ 0 (E5 3 6 7 8 9 rfl) rfl<|Dd<|zh rfl (fun h1=>?_) (fun h1=>?_)<;>try simp only[CT,Z]at h1
 ·refine yE<|Dd<|zT<|zV (.n (xx 0 s6 rfl (by omega) (by omega))<|.n (xy Fa rfl)<|.z rfl) rfl fun g5=>CZ 0 (E5 3 5 6 7 8 rfl) rfl<|zC<|(zG [] (.mm rfl<|.n (Z3 tj (hb _ (IJ 0 (by omega))) (.t rfl))<|.n (xC Dl EL rfl (.g Dj rfl .nil))<|.w 0 (EC 0 Dl EL rfl (.t rfl) (.t rfl) rfl (by simp;omega) (by simp;omega))<|.n (yX rfl rfl)<|.nil) ff rfl fun g6=>CZ 0 (E4 3 6 7 8 rfl) rfl ?_)
  refine zR<|zC<|(zG [] (.n (xo rfl (wo (by omega)))<|.m rfl<|.nil) ff rfl fun g7=>CZ 0 (E4 3 6 7 8 rfl) rfl ?_)
  exact yW (k+1,g6 16) (by exact(show k+1≤bs.length by omega)) (by show bs.length-(_+1)<_;omega) (To.pick (fun _=>E4 8 3 6 7 rfl) (fun _=> .sub 0 rfl (yQ (by have e:=GA (xs:=bs.map cn) 0 (k:=k) (by rw[Az];omega);show DC _ Dm _ _=DC _ Dm ((bs.map cn).take (k+1)) _;rw[e];congr 2;simp[List.getD,AC,Ag (show k<bs.length by omega)]))<|.nil) (ks:=[0]) rfl)
 refine D6<|zE<|zE<|zS<|zW (.m rfl<|.z rfl) rfl fun g8=>CZ 0 (E1 2 rfl) rfl<|De<|D5 (To.freeze 0 (fun _ h=>h) rfl Dz rfl)<|zQ (.cons (.tmp (.t rfl))<|.nil) (zM (yD (Ed 0 rfl)) ?_)
 exact L8 (by rw[AN (by simp;omega)])
theorem cZ:Ya prog 216 Ty:=⟨_,func216,by kernel_rfl,by kernel_rfl,by kernel_rfl,by kernel_rfl⟩
theorem wD:Ya prog 250 TH:=⟨_,func250,by kernel_rfl,by kernel_rfl,by kernel_rfl,by kernel_rfl⟩
theorem Iy{l:List Int}(hd:DJ l):Ct prog 165 [DP .u64 l] (DP .u64 (CQ (CS l).toNat)):=by
 refine Ct.of func165 rfl (by kernel_rfl) rfl fun c0=>ER 0 rfl fun hlen=>zV (.b rfl<|.nil) rfl fun g1=>CY (E1 0 rfl)<|zW (.m rfl<|.n (xv Df rfl)<|.z rfl) rfl fun g2=>CY (E2 0 3 rfl)<|Dd<|zT<|D4 (α:=Nat) (fun k=>k≤l.length∧CS (l.take k)=CS l) (fun k=>k) (fun k restR=>(3,I6 (k:Int))::restR) (fun k restS=>restS) (ρc:=[(0,_)]) (σc:=[]) l.length (by exact⟨A5 _,by rw[AI]⟩) (Es (fun _=>E2 3 0 rfl) fun _=>R0) (fun k hI=>?_)
 obtain⟨hk,hm⟩:=hI
 refine zF<|zV (.m rfl<|.n (xd rfl)<|.m rfl<|.n (gu rfl (fun hC=>(xB rfl)))<|.n (gu rfl (fun hC=>(xB rfl)))<|.n (gu rfl (fun hC=>(Eb (.w rfl hC) (.k rfl) (wo (by omega)))))<|.n (gu rfl (fun hC=>(yS 0 Df (.w rfl hC) (.w rfl hC) (by simp only[CT,Ao,decide_eq_true_eq,beq_iff_eq]at hC;omega) (by simp only[CT,Ao,decide_eq_true_eq,beq_iff_eq]at hC;omega))))<|.n (gu rfl (fun hC=>(yC Fa (.w rfl hC) rfl)))<|.n (gu rfl (fun hC=>(oc rfl (.w rfl hC) (.k rfl) rfl)))<|.n (EO (.t rfl) (fun h2=>(.w rfl h2)))<|.nil) rfl fun g3=>CY (E3 0 3 15 rfl)<|zC<|zh rfl (fun h1=>?_) (fun h1=>?_)<;>try simp only[CT,Z]at h1
 ·have ek:(((k:Nat):Int) -1).toNat=k-1:=by omega
  have hz:l.getD (k-1) 0=0:=by rw[←ek];exact h1.2
  have hk0:0<k:=by have:=h1.1;omega
  refine yE<|zC<|zT<|(zG [] (.m rfl<|.n (xh rfl (wo (by omega)))<|.z rfl) ff rfl fun g4=>CY (E2 0 3 rfl) ?_)
  refine zR<|yW (k-1) (by exact⟨by omega,RC hk hk0 hz hm⟩) (by omega) (Es (fun _=> .sub (t:=3) rfl (yO (by exact congrArg (fun z=>I6 z) (by omega)))<|E1 0 rfl) fun _=>R0)
 have ek:(((k:Nat):Int) -1).toNat=k-1:=by omega
 refine D6<|zE<|zE<|zS<|zW (.mm rfl<|.n (K0 Df (.t rfl) (.t rfl) (by omega) (by omega))<|.z rfl) rfl fun g5=>CY (E1 2 rfl)<|De<|DO rfl<|D3 (congrArg (fun z=>DP .u64 z) (SO hd hk hm (by have h9:=h1;rw[ek]at h9;rcases h9 with h9|h9;exact .inl (by omega);exact .inr h9)))
theorem l6{a:Int}(hd:DJ [a]):Ct prog 165 [Mv 1 1 [CW (.int .u64 a)]] (DP .u64 (CQ (CS [a]).toNat)):=Iy (l:=[a]) hd
theorem Qs{n:Nat}(hn:n<18446744073709551616):Ct prog 122 [CW (.int .u64 (n:Int))] (DP .u64 (CQ n)):=by
 refine Ct.of func122 rfl (by kernel_rfl) rfl fun c0=>zV (.b rfl<|.nil) rfl fun g1=>CY (E1 0 rfl)<|zW (.m rfl<|.n (xC Df M5 rfl (.g D7 rfl .nil))<|.n (zP (l6 (j9 hn)) (A1 rfl))<|.z rfl) rfl fun g2=>CY (E1 2 rfl)<|De<|DO rfl<|D3 (by rw[Kv,Ar])
theorem ID{l:List Int}(hl:l.length≤250000000000):Ct prog 123 [DP .u64 l] (DP .u64 l):=by
 refine Ct.of func123 rfl (by kernel_rfl) rfl fun c0=>zV (.b rfl<|.nil) rfl fun g1=>CY (E1 0 rfl)<|zW (.m rfl<|.n (FM Df M5 rfl (.k rfl) (.t rfl) (by omega) (by omega))<|.z rfl) rfl fun g2=>CY (E1 2 rfl)<|De<|DO rfl<|zL
theorem IF{l:List Int}{k:Nat}:Ct prog 246 [DP .u64 l,I6 (k:Int)] (CW (.int .u64 (Gi l k))):=by
 refine Ct.of func246 rfl (by kernel_rfl) rfl fun c0=>ER 0 rfl fun hlen=>zV (.b rfl<|.nil) rfl fun g1=>CY (E2 0 1 rfl)<|Dd<|zV (.mm rfl<|.n (xv Df rfl)<|.n (xw rfl)<|.nil) rfl fun g2=>CY (E3 0 1 8 rfl)<|zC<|zh rfl (fun h1=>?_) (fun h1=>?_)<;>try simp only[CT,Z]at h1
 ·refine zV (.mm rfl<|.n (xx 0 Df rfl (by omega) (by omega))<|.n (xy Fa rfl)<|.z rfl) rfl fun g3=>CY (E1 4 rfl)<|De<|zD<|DO rfl<|Dc (by unfold Gi;rw[if_pos (by omega)];rfl)
 refine yE<|zW (.b rfl<|.nil) rfl fun g4=>CY (E1 4 rfl)<|De<|DO rfl<|Dc (by unfold Gi;rw[if_neg (by omega)])
theorem kx{n:Nat}:Ct prog 210 [DP .u64 (CQ n)] (CW (.int .u64 ((n % 18446744073709551616:Nat):Int))):=by
 refine Ct.of func210 rfl (by kernel_rfl) rfl fun c0=>zV (.b rfl<|.nil) rfl fun g1=>CY (E1 0 rfl)<|zW (.m rfl<|.n (zP (IF (k:=0)) ⟨(.t rfl),(.k rfl),trivial⟩)<|.z rfl) rfl fun g2=>CY (E1 2 rfl)<|De<|DO rfl<|Dc (by rw[po])
theorem Qh{x y:Nat}:Ct prog 167 [DP .u64 (CQ x),DP .u64 (CQ y)] (I6 (GS x y)):=by
 refine Ct.of func167 rfl (by kernel_rfl) rfl fun c0=>ER 0 rfl fun hlen=>ER 1 rfl fun hlen2=>zV (.b rfl<|.nil) rfl fun g1=>CY (E2 0 1 rfl)<|Dd<|zV (.m rfl<|.n (xv Df rfl)<|.m rfl<|.n (xv Df rfl)<|.n (xw rfl)<|.nil) rfl fun g2=>CY (E3 0 1 10 rfl)<|zC<|zh rfl (fun h1=>?_) (fun h1=>?_)<;>try simp only[CT,Z]at h1
 ·refine zF<|zV (.m rfl<|.n (xv Df rfl)<|.m rfl<|.n (xv Df rfl)<|.n (xw rfl)<|.nil) rfl fun g3=>CY (E1 15 rfl)<|zC<|zh rfl (fun h2=>?_) (fun h2=>?_)<;>try simp only[CT,Z]at h2
  ·refine zV (.b rfl<|.nil) rfl fun g4=>CY (E1 4 rfl)<|De<|zD<|zD<|DO rfl<|Dc (oW (by omega))
  refine yE<|zW (.b rfl<|.nil) rfl fun g5=>CY (E1 4 rfl)<|De<|zD<|DO rfl<|Dc (oX (by omega))
 have hle:(CQ x).length=(CQ y).length:=by omega
 refine yE<|Dd<|zV (.m rfl<|.n (xv Df rfl)<|.n (xh rfl (wo (by omega)))<|.z rfl) rfl fun g6=>CY (E3 0 1 5 rfl)<|zC<|zT<|D4 (α:=Nat) (fun k=>QD (CQ x) (CQ y) k) (fun k=>k) (fun k restR=>(5,I6 ((k:Int) -1))::restR) (fun k restS=>restS) (ρc:=[(0,_),(1,_)]) (σc:=[]) (CQ x).length (by exact XN hle rfl) (Es (fun _=>E3 5 0 1 rfl) fun _=>R0) (fun k hI=>?_)
 refine zF<|zV (.m rfl<|.n (xd rfl)<|.nil) rfl fun g7=>CY (E4 0 1 5 20 rfl)<|zC<|zh rfl (fun h3=>?_) (fun h3=>?_)<;>try simp only[CT,Z]at h3
 ·obtain⟨j,rfl⟩: ∃ j,k=j+1:=⟨k-1,by omega⟩
  have hIk:=hI.1
  have ej:(((j+1:Nat):Int) -1).toNat=j:=by omega
  refine yE<|Dd<|zT<|zF (zG [[],[],[0,1],[0,1,2],[],[],[4,5],[4,5,6],[0,1,2,3,4,5,6,7]] (.mm rfl<|.n (xx 0 Df rfl (by omega) (by omega))<|.n (xy Fa rfl)<|.mm rfl<|.n (xx 0 Df rfl (by omega) (by omega))<|.n (xy Fa rfl)<|.n (xw rfl)<|.nil) (fun _=>Di) rfl fun g8=>CY (E4 0 1 5 31 rfl) ?_)
  refine zC<|zh rfl (fun h4=>?_) (fun h4=>?_)<;>try simp only[CT,Z]at h4
  ·refine zF<|zF (zG [[],[],[0,1],[0,1,2],[],[],[4,5],[4,5,6],[0,1,2,3,4,5,6,7]] (.mm rfl<|.n (xx 0 Df rfl (by omega) (by omega))<|.n (xy Fa rfl)<|.mm rfl<|.n (xx 0 Df rfl (by omega) (by omega))<|.n (xy Fa rfl)<|.n (xw rfl)<|.nil) (fun _=>Di) rfl fun g9=>CY (E1 40 rfl) ?_)
   refine zC<|zh rfl (fun h5=>?_) (fun h5=>?_)<;>try simp only[CT,Z]at h5
   ·refine zV (.b rfl<|.nil) rfl fun g10=>CY (E1 4 rfl)<|De<|zD<|yP<|zD<|zD<|yP<|zD<|DO rfl<|Dc (oY hle hI (by have e:=h5;rw[ej]at e;exact e))
   refine yE<|zW (.b rfl<|.nil) rfl fun g11=>CY (E1 4 rfl)<|De<|yP<|zD<|zD<|yP<|zD<|DO rfl<|Dc (oZ hle hI (by have e:=h5;have e4:=h4;rw[ej]at e e4;omega))
  have hn4:(CQ x).getD j 0=(CQ y).getD j 0:=by have e:=h4;rw[ej]at e;exact e
  refine yE<|zR<|zC<|(zG [] (.m rfl<|.n (xh rfl (wo (by omega)))<|.z rfl) ff rfl fun g12=>CY (E3 0 1 5 rfl) ?_)
  exact yW j (by exact XM hle hI (by omega) (by omega)) (by omega) (Es (fun _=> .sub (t:=5) rfl (yO (by exact congrArg (fun z=>I6 z) (by omega)))<|E2 0 1 rfl) fun _=>R0)
 refine D6<|zE<|zE<|zS<|zW (.b rfl<|.nil) rfl fun g13=>CY (E1 4 rfl)<|De<|DO rfl<|Dc (pc hI (by omega))
theorem UZ{a b:List Int}(ha:DJ a)(hb:DJ b)(hla:a.length≤250000000000)(hlb:b.length≤250000000000):Ct prog 217 [DP .u64 a,DP .u64 b] (DP .u64 (CQ (CS a+CS b).toNat)):=by
 refine Ct.of func217 rfl (by kernel_rfl) rfl fun c0=>ER 0 rfl fun hlen=>ER 1 rfl fun hlen2=>?_
 obtain⟨n,hn⟩: ∃ n,n=max a.length b.length:=⟨_,rfl⟩
 have hnI:max (a.length:Int) (b.length:Int)=(n:Int):=by omega
 refine zV (.b rfl<|.nil) rfl fun g1=>CY (E2 0 1 rfl)<|zW (.m rfl<|.n (xv Df rfl)<|.m rfl<|.n (xv Df rfl)<|.n (Us (.t rfl) (.t rfl))<|.z rfl) rfl fun g2=>CY (E3 0 1 5 rfl)<|zC ?_
 rw[hnI]
 refine DS<|zV (.m rfl<|.n (xo rfl (wo (by omega)))<|.w 0 (DI (mk:=Eh .u64) 0 0 Df M5 rfl (fun _=>⟨rfl,rfl⟩) (.t rfl) (.t rfl) (by omega) (by omega) (by omega) (by omega) rfl)<|.n (yX rfl rfl)<|.nil) rfl fun g3=>CZ 0 (E4 0 1 5 6 rfl) rfl<|zW (.b rfl<|.nil) rfl fun g4=>CZ 0 (E5 0 1 5 6 7 rfl) rfl<|Dd<|zV (.m rfl<|.n (zA (.k rfl))<|.nil) rfl fun g5=>CZ 0 (E7 0 1 5 6 7 17 18 rfl) rfl<|zC<|zT<|D4 (α:=Nat×List Int×Int) (fun x=>Vo a b x.2.1 n x.1 x.2.2) (fun x=>n-x.1) (fun x restR=>(18,I6 (x.1:Int))::(7,CW (.int .u64 x.2.2))::restR) (fun x restS=>DC (g3 16) (Eh .u64) x.2.1 71::restS) (ρc:=[(0,_),(1,_),(5,_),(6,_),(17,_)]) (σc:=[]) (0,List.replicate (n+1) 0,0) (by exact gD rfl) (To.pick (fun _=>E7 18 7 0 1 5 6 17 rfl) (fun _=> .sub 0 rfl (yQ (by rw[show((n:Int)+1).toNat=n+1 by omega]))<|.nil) (ks:=[0]) rfl) (fun x hI=>?_)
 obtain⟨k,l,c⟩:=x
 try simp only at hI
 show J _ _ ((18,I6 (k:Int))::(7,CW (.int .u64 c))::_) (DC (g3 16) (Eh .u64) l 71::_) _ _
 refine zV (.n (xw rfl)<|.nil) rfl fun g6=>CZ 0 (E8 0 1 5 6 7 17 18 19 rfl) rfl<|Dd<|zh rfl (fun h1=>?_) (fun h1=>?_)<;>try simp only[CT,Z]at h1
 ·have hIl:=hI.hl
  have hIc:=hI.hc
  have gx:=H1 ha k
  have gy:=H1 hb k
  refine yE<|Dd<|zT<|zV (.m rfl<|.z rfl) rfl fun g7=>CZ 0 (E8 0 1 5 6 7 8 17 18 rfl) rfl<|zC<|(zG [] (.mm rfl<|.mm rfl<|.n (zP (IF) (A2 rfl))<|.mm rfl<|.n (zP (IF) (A2 rfl))<|.m rfl<|.n (Ky cZ (.t rfl) (.t rfl) (.t rfl) gx.1 gy.1 hIc)<|.m rfl<|.n (xk rfl)<|.n (xk rfl)<|.r 0 (xz 0 Df rfl (by omega) (by omega))<|.w 0 (xA (mk:=Eh .u64) 0 rfl DY J4 rfl (by omega))<|.z rfl) ff rfl fun g8=>CZ 0 (E7 0 1 5 6 7 17 18 rfl) rfl ?_)
  refine zR<|zC<|(zG [] (.n (xo rfl (wo (by omega)))<|.m rfl<|.nil) ff rfl fun g9=>CZ 0 (E7 0 1 5 6 7 17 18 rfl) rfl ?_)
  exact yW (k+1,l.set k (Lv (Gi a k) (Gi b k) c),Kl (Gi a k) (Gi b k) c) (by exact gC ha hb hI (by omega) rfl rfl) (by show n-(_+1)<_;omega) (Es (fun _=>E7 18 7 0 1 5 6 17 rfl) fun _=>R1 0 rfl)
 have hIl:=hI.hl
 obtain⟨hdg,hmg⟩:=gB (by omega) (by omega) hI (show k=n by have:=hI.hk;omega)
 refine D6<|zE<|zE<|zS<|zW (.mm rfl<|.m rfl<|.r 0 (xz 0 Df rfl (by omega) (by omega))<|.w 0 (xA (mk:=Eh .u64) 0 rfl DY J4 rfl (by omega))<|.nil) rfl fun g10=>CZ 0 (E1 6 rfl) rfl<|zC<|yN (To.freeze 0 (fun _ h=>h) rfl Dz rfl)<|zV (.m rfl<|.n (zP (Iy hdg) ⟨(Lk.sub (Ed 0 rfl) (.t rfl)),trivial⟩)<|.z rfl) rfl fun g11=>CY (E1 4 rfl)<|De<|DO rfl<|D3 (congrArg (fun z=>DP .u64 (CQ z.toNat)) hmg)
theorem KB{a b:List Int}(ha:DJ a)(hb:DJ b)(hla:a.length≤250000000000)(hlb:b.length≤250000000000)(hAB:b.length≤a.length)(hle:CS b≤CS a):Ct prog 218 [DP .u64 a,DP .u64 b] (DP .u64 (CQ (CS a-CS b).toNat)):=by
 refine Ct.of func218 rfl (by kernel_rfl) rfl fun c0=>ER 0 rfl fun hlen=>ER 1 rfl fun hlen2=>zV (.b rfl<|.nil) rfl fun g1=>CY (E2 0 1 rfl)<|zC<|DS<|zV (.m rfl<|.n (xv Df rfl)<|.w 0 (DI (mk:=Eh .u64) 0 0 Df M5 rfl (fun _=>⟨rfl,rfl⟩) (.t rfl) (.t rfl) (by omega) (by omega) (by omega) (by omega) rfl)<|.n (yX rfl rfl)<|.nil) rfl fun g2=>CZ 0 (E3 0 1 5 rfl) rfl<|zW (.b rfl<|.nil) rfl fun g3=>CZ 0 (E4 0 1 5 6 rfl) rfl<|Dd<|zV (.m rfl<|.n (xv Df rfl)<|.n (zA (.k rfl))<|.nil) rfl fun g4=>CZ 0 (E6 0 1 5 6 12 13 rfl) rfl<|zC<|zT<|D4 (α:=Nat×List Int×Int) (fun x=>Vj a b x.2.1 x.1 x.2.2) (fun x=>a.length-x.1) (fun x restR=>(13,I6 (x.1:Int))::(6,CW (.int .u64 x.2.2))::restR) (fun x restS=>DC (g2 10) (Eh .u64) x.2.1 71::restS) (ρc:=[(0,_),(1,_),(5,_),(12,_)]) (σc:=[]) (0,List.replicate (a.length:Int).toNat 0,0) (by exact eu (by omega)) (Es (fun _=>E6 13 6 0 1 5 12 rfl) fun _=>R1 0 rfl) (fun x hI=>?_)
 obtain⟨k,l,c⟩:=x
 try simp only at hI
 show J _ _ ((13,I6 (k:Int))::(6,CW (.int .u64 c))::_) (DC (g2 10) (Eh .u64) l 71::_) _ _
 refine zV (.n (xw rfl)<|.nil) rfl fun g5=>CZ 0 (E7 0 1 5 6 12 13 14 rfl) rfl<|Dd<|zh rfl (fun h1=>?_) (fun h1=>?_)<;>try simp only[CT,Z]at h1
 ·have hIl:=hI.hl
  have hIc:=hI.hc
  have gx:0≤a.getD ((k:Nat):Int).toNat 0∧a.getD ((k:Nat):Int).toNat 0<18446744073709551616:=ha.at (k:=k) (by omega)
  have gy:=H1 hb k
  obtain⟨s1,s2,s3,s4⟩:=XE gx gy hIc
  refine yE<|Dd<|zT<|zV (.m rfl<|.z rfl) rfl fun g6=>CZ 0 (E7 0 1 5 6 7 12 13 rfl) rfl<|zC<|(zG [[],[],[],[],[2,3],[2,3,4],[],[],[6,7],[],[2,3,4,5,6,7,8,9],[2,3,4,5,6,7,8,9,10],[2,3,4,5,6,7,8,9,10,11],[2,3,4,5,6,7,8,9,10,11],[0,1,2,3,4,5,6,7,8,9,10,11,12],[0,1,2,3,4,5,6,7,8,9,10,11,12,14],[0,1,2,3,4,5,6,7,8,9,10,11,12,13,14,15]] (.mm rfl<|.mm rfl<|.n (xx 0 Df rfl (by omega) (by omega))<|.n (xy Fa rfl)<|.mm rfl<|.n (zP (IF) (A2 rfl))<|.m rfl<|.n (RI wD (.t rfl) (.t rfl) (.t rfl) gx gy hIc)<|.m rfl<|.n (xk rfl)<|.n (xk rfl)<|.r 0 (xz 0 Df rfl (by omega) (by omega))<|.w 0 (xA (mk:=Eh .u64) 0 rfl DY J4 rfl (by omega))<|.z rfl) (fun _=>Di) rfl fun g7=>CZ 0 (E6 0 1 5 6 12 13 rfl) rfl ?_)
  refine zR<|zC<|(zG [] (.n (xo rfl (wo (by omega)))<|.m rfl<|.nil) ff rfl fun g8=>CZ 0 (E6 0 1 5 6 12 13 rfl) rfl ?_)
  exact yW (k+1,l.set k (Pi (a.getD k 0) (Gi b k) c),Ph (a.getD k 0) (Gi b k) c) (by exact er ha hb hI (by omega) s3 ⟨s1,s2⟩ s4) (by show a.length-(_+1)<_;omega) (Es (fun _=>E6 13 6 0 1 5 12 rfl) fun _=>R1 0 rfl)
 obtain⟨hdg,hmg⟩:=eo ha hb hAB hle hI (show k=a.length by have:=hI.hk;omega)
 refine D6<|zE<|zE<|zS<|zC<|yN (To.freeze 0 (fun _ h=>h) rfl Dz rfl)<|zV (.m rfl<|.n (zP (Iy hdg) ⟨(Lk.sub (Ed 0 rfl) (.t rfl)),trivial⟩)<|.z rfl) rfl fun g9=>CY (E1 4 rfl)<|De<|DO rfl<|D3 (congrArg (fun z=>DP .u64 (CQ z.toNat)) hmg)
theorem WX{m:List Int}{n:Nat}(hm:DJ m)(hlm:m.length≤250000000000)(hn:n≤8000000000000):Ct prog 124 [DP .u64 m,CW (.int .u64 (n:Int))] (DP .u64 (CQ (CS m*2^n).toNat)):=by
 refine Ct.of func124 rfl (by kernel_rfl) rfl fun c0=>ER 0 rfl fun hlen=>?_
 have hs64:n % 64<64:=Ap _ (by omega)
 obtain⟨hp1,hp2,hp3,hp4⟩:=HQ hs64
 refine zV (.b rfl<|.nil) rfl fun g1=>CY (E2 0 1 rfl)<|Dd<|zV (.m rfl<|.n (xv Df rfl)<|.n (xd rfl)<|.nil) rfl fun g2=>CY (E3 0 1 12 rfl)<|zC<|zh rfl (fun h1=>?_) (fun h1=>?_)<;>try simp only[CT,Z]at h1
 ·refine zV (.b rfl<|.nil) rfl fun g3=>CY (E1 4 rfl)<|De<|zD<|zQ (.cons (.tmp (.t rfl))<|.nil) (zM (yD (Dr (mk:=Eh .u64))) ?_)
  have hm0:m=[]:=BC.1 (by omega)
  exact D3 (by rw[hm0];simp[CS,DZ])
 refine yE<|zW (.m rfl<|.n (Gq (.t rfl) (.k rfl) (by omega) (rA n (by omega)))<|.n (xg I8 KL rfl (wo (by omega)))<|.m rfl<|.n (Gr (.t rfl) (.k rfl) (by omega) (wg n))<|.a rfl<|.z rfl) rfl fun g4=>CY (E3 0 5 6 rfl)<|zC<|DS<|zV (.mm rfl<|.n (xv Df rfl)<|.n (xq rfl (wo (by omega)))<|.n (xo rfl (wo (by omega)))<|.w 0 (DI (mk:=Eh .u64) 0 0 Df M5 rfl (fun _=>⟨rfl,rfl⟩) (.t rfl) (.t rfl) (by omega) (by omega) (by omega) (by omega) rfl)<|.n (yX rfl rfl)<|.nil) rfl fun g5=>CZ 0 (E4 0 5 6 7 rfl) rfl<|Dd<|zV (.m rfl<|.n (xv Df rfl)<|.n (zA (.k rfl))<|.nil) rfl fun g6=>CZ 0 (E6 5 6 7 24 25 26 rfl) rfl<|zC<|zT<|D4 (α:=Nat×List Int) (fun x=>QA m x.2 (n/64) (2^(n % 64)) x.1) (fun x=>m.length-x.1) (fun x restR=>(26,I6 (x.1:Int))::restR) (fun x restS=>DC (g5 23) (Eh .u64) x.2 71::restS) (ρc:=[(5,_),(6,_),(7,_),(24,_),(25,_)]) (σc:=[]) (0,List.replicate (n/64+m.length+1) 0) (by exact T3 rfl hp1) (To.pick (fun _=>E6 26 5 6 7 24 25 rfl) (fun _=> .sub 0 rfl (yQ (by rw[show(((n/64:Nat):Int)+(m.length:Int)+1).toNat=n/64+m.length+1 by omega]))<|.nil) (ks:=[0]) rfl) (fun x hI=>?_)
 obtain⟨i,l⟩:=x
 try simp only at hI
 show J _ _ ((26,I6 (i:Int))::_) (DC (g5 23) (Eh .u64) l 71::_) _ _
 refine zV (.n (xw rfl)<|.nil) rfl fun g7=>CZ 0 (E7 5 6 7 24 25 26 27 rfl) rfl<|Dd<|zh rfl (fun h2=>?_) (fun h2=>?_)<;>try simp only[CT,Z]at h2
 ·have hIi:=hI.hi
  have hIl:=hI.hl
  have gm:0≤m.getD ((i:Nat):Int).toNat 0∧m.getD ((i:Nat):Int).toNat 0<18446744073709551616:=hm.at (k:=i) (by omega)
  obtain⟨x,hx⟩: ∃ x,x=m.getD i 0:=⟨_,rfl⟩
  obtain⟨t,ht⟩: ∃ t,t=x*2^(n % 64):=⟨_,rfl⟩
  have hx9:m.getD ((i:Nat):Int).toNat 0=x:=hx.symm
  have gx:0≤x∧x<18446744073709551616:=by rw[←hx9];exact gm
  have hsh:IntKind.u64.wrap (m.getD ((i:Nat):Int).toNat 0*2^min ((n % 64:Nat):Int).toNat IntKind.u64.bits)=t % 18446744073709551616:=by rw[hx9,fX hs64,ht]
  have hor:Ej .or .u64 (l.getD (((n/64:Nat):Int)+(i:Int)).toNat 0) (t % 18446744073709551616)=l.getD (n/64+i) 0+t % 18446744073709551616:=b7 hs64 hm hI (show i<m.length by omega) hx ht
  have hup:(m.getD ((i:Nat):Int).toNat 0).fdiv (2^min ((64-n % 64:Nat):Int).toNat IntKind.u64.bits)=t/18446744073709551616:=by rw[hx9,gg (by omega),nj gx hs64,ht]
  refine yE<|Dd<|zT<|zV (.m rfl<|.n (xx 0 Df rfl (by omega) (by omega))<|.n (xy Fa rfl)<|.a rfl<|.z rfl) rfl fun g8=>CZ 0 (E8 5 6 7 8 9 24 25 26 rfl) rfl<|zW (.mm rfl<|.m rfl<|.n (xq rfl (wo (by omega)))<|.r 0 (xz 0 Df rfl (by omega) (by omega))<|.r 0 (DH 0 0 Fa (.t rfl) rfl (by omega))<|.mm rfl<|.n (GD (.t rfl) (.t rfl) (by omega) hsh)<|.n (Ep (by simp) (.t rfl) (.t rfl) hor)<|.r 0 (xz 0 Df rfl (by omega) (by omega))<|.w 0 (xA (mk:=Eh .u64) 0 rfl DY J4 rfl (by omega))<|.nil) rfl fun g9=>CZ 0 (E8 5 6 7 8 9 24 25 26 rfl) rfl<|zC<|(zG [] (.mm rfl<|.m rfl<|.n (xq rfl (wo (by omega)))<|.n (xo rfl (wo (by omega)))<|.mm rfl<|.n (Eb (.k rfl) (.t rfl) (XD hs64))<|.n (GV (.t rfl) (.t rfl) (by omega) hup)<|.r 0 (xz 0 Df rfl (by omega) (by rw[Aa];omega))<|.w 0 (xA (mk:=Eh .u64) 0 rfl DY J4 rfl (by rw[Aa];omega))<|.nil) ff rfl fun g10=>CZ 0 (E6 5 6 7 24 25 26 rfl) rfl ?_)
  refine zR<|zC<|(zG [] (.n (xo rfl (wo (by omega)))<|.m rfl<|.nil) ff rfl fun g11=>CZ 0 (E6 5 6 7 24 25 26 rfl) rfl ?_)
  exact yW (i+1,(l.set (n/64+i) (l.getD (n/64+i) 0+t % 18446744073709551616)).set (n/64+i+1) (t/18446744073709551616)) (by exact T2 hm hI (by omega) hp1 hp2 hp3 hx ht) (by show m.length-(_+1)<_;omega) (Es (fun _=>E6 26 5 6 7 24 25 rfl) fun _=>R1 0 rfl)
 obtain⟨hdg,hmg⟩:=T1 hI (show i=m.length by have:=hI.hi;omega)
 rw[Wf]at hmg
 refine D6<|zE<|zE<|zS<|zC<|yN (To.freeze 0 (fun _ h=>h) rfl Dz rfl)<|zV (.m rfl<|.n (zP (Iy hdg) ⟨(Lk.sub (Ed 0 rfl) (.t rfl)),trivial⟩)<|.z rfl) rfl fun g12=>CY (E1 4 rfl)<|De<|DO rfl<|D3 (congrArg (fun z=>DP .u64 (CQ z.toNat)) hmg)
theorem Wl{z:Int}(z0:0≤z)(z1:z<18446744073709551616):Ct prog 245 [CW (.int .u64 z)] (I6 (bl z.toNat:Int)):=by
 refine Ct.of func245 rfl (by kernel_rfl) rfl fun c0=>zV (.b rfl<|.nil) rfl fun g1=>CY (E2 0 2 rfl)<|Dd<|zV (.m rfl<|.n (xd rfl)<|.nil) rfl fun g2=>CY (E3 0 2 4 rfl)<|zC<|zh rfl (fun h1=>?_) (fun h1=>?_)<;>try simp only[CT,Z]at h1
 ·have e1:=uE h1
  refine zV (.m rfl<|.n (xr rfl (by omega) (nh _))<|.z rfl) rfl fun g3=>CY (E1 0 rfl)<|zC<|(zG [] (.b rfl<|.nil) ff rfl fun g4=>CY (E2 0 2 rfl) ?_)
  refine Dd<|zV (.m rfl<|.n (xd rfl)<|.nil) rfl fun g5=>CY (E3 0 2 8 rfl)<|zC<|zh rfl (fun h2=>?_) (fun h2=>?_)<;>try simp only[CT,Z]at h2
  ·have e2:=iG h2
   refine zV (.m rfl<|.n (xr rfl (by omega) (Xv _))<|.z rfl) rfl fun g6=>CY (E2 0 2 rfl)<|zC<|(zG [] (.m rfl<|.n (xo rfl (wo (by omega)))<|.z rfl) ff rfl fun g7=>CY (E2 0 2 rfl) ?_)
   refine Dd<|zV (.m rfl<|.n (xd rfl)<|.nil) rfl fun g8=>CY (E3 0 2 14 rfl)<|zC<|zh rfl (fun h3=>?_) (fun h3=>?_)<;>try simp only[CT,Z]at h3
   ·have e3:=Vz h3
    refine zV (.m rfl<|.n (xr rfl (by omega) (Ql _))<|.z rfl) rfl fun g9=>CY (E2 0 2 rfl)<|zC<|(zG [] (.m rfl<|.n (xo rfl (wo (by omega)))<|.z rfl) ff rfl fun g10=>CY (E2 0 2 rfl) ?_)
    refine zW (.mm rfl<|.n (xg El Pu rfl (gU (by omega) (by omega)))<|.n (FX underlying9 (.k rfl) (.t rfl) (by omega) (Hj (by omega) (by omega)))<|.n (xg Pu KL rfl (FW (by omega) (by omega)))<|.n (xq rfl (Lm (by omega) (by omega) (by omega) (by omega)))<|.z rfl) rfl fun g11=>CY (E1 2 rfl)<|De<|DO rfl<|Dc (by omega)
   refine yE<|zW (.mm rfl<|.n (xg El Pu rfl (gU (by omega) (by omega)))<|.n (FX underlying9 (.k rfl) (.t rfl) (by omega) (Hj (by omega) (by omega)))<|.n (xg Pu KL rfl (FW (by omega) (by omega)))<|.n (xq rfl (Lm (by omega) (by omega) (by omega) (by omega)))<|.z rfl) rfl fun g12=>CY (E1 2 rfl)<|De<|DO rfl<|Dc (by omega)
  refine yE<|Dd<|zV (.m rfl<|.n (xd rfl)<|.nil) rfl fun g13=>CY (E3 0 2 14 rfl)<|zC<|zh rfl (fun h4=>?_) (fun h4=>?_)<;>try simp only[CT,Z]at h4
  ·have e3:=Vz h4
   refine zV (.m rfl<|.n (xr rfl (by omega) (Ql _))<|.z rfl) rfl fun g14=>CY (E2 0 2 rfl)<|zC<|(zG [] (.m rfl<|.n (xo rfl (wo (by omega)))<|.z rfl) ff rfl fun g15=>CY (E2 0 2 rfl) ?_)
   refine zW (.mm rfl<|.n (xg El Pu rfl (gU (by omega) (by omega)))<|.n (FX underlying9 (.k rfl) (.t rfl) (by omega) (Hj (by omega) (by omega)))<|.n (xg Pu KL rfl (FW (by omega) (by omega)))<|.n (xq rfl (Lm (by omega) (by omega) (by omega) (by omega)))<|.z rfl) rfl fun g16=>CY (E1 2 rfl)<|De<|DO rfl<|Dc (by omega)
  refine yE<|zW (.mm rfl<|.n (xg El Pu rfl (gU (by omega) (by omega)))<|.n (FX underlying9 (.k rfl) (.t rfl) (by omega) (Hj (by omega) (by omega)))<|.n (xg Pu KL rfl (FW (by omega) (by omega)))<|.n (xq rfl (Lm (by omega) (by omega) (by omega) (by omega)))<|.z rfl) rfl fun g17=>CY (E1 2 rfl)<|De<|DO rfl<|Dc (by omega)
 refine yE<|Dd<|zV (.m rfl<|.n (xd rfl)<|.nil) rfl fun g18=>CY (E3 0 2 8 rfl)<|zC<|zh rfl (fun h5=>?_) (fun h5=>?_)<;>try simp only[CT,Z]at h5
 ·have e2:=iG h5
  refine zV (.m rfl<|.n (xr rfl (by omega) (Xv _))<|.z rfl) rfl fun g19=>CY (E2 0 2 rfl)<|zC<|(zG [] (.m rfl<|.n (xo rfl (wo (by omega)))<|.z rfl) ff rfl fun g20=>CY (E2 0 2 rfl) ?_)
  refine Dd<|zV (.m rfl<|.n (xd rfl)<|.nil) rfl fun g21=>CY (E3 0 2 14 rfl)<|zC<|zh rfl (fun h6=>?_) (fun h6=>?_)<;>try simp only[CT,Z]at h6
  ·have e3:=Vz h6
   refine zV (.m rfl<|.n (xr rfl (by omega) (Ql _))<|.z rfl) rfl fun g22=>CY (E2 0 2 rfl)<|zC<|(zG [] (.m rfl<|.n (xo rfl (wo (by omega)))<|.z rfl) ff rfl fun g23=>CY (E2 0 2 rfl) ?_)
   refine zW (.mm rfl<|.n (xg El Pu rfl (gU (by omega) (by omega)))<|.n (FX underlying9 (.k rfl) (.t rfl) (by omega) (Hj (by omega) (by omega)))<|.n (xg Pu KL rfl (FW (by omega) (by omega)))<|.n (xq rfl (Lm (by omega) (by omega) (by omega) (by omega)))<|.z rfl) rfl fun g24=>CY (E1 2 rfl)<|De<|DO rfl<|Dc (by omega)
  refine yE<|zW (.mm rfl<|.n (xg El Pu rfl (gU (by omega) (by omega)))<|.n (FX underlying9 (.k rfl) (.t rfl) (by omega) (Hj (by omega) (by omega)))<|.n (xg Pu KL rfl (FW (by omega) (by omega)))<|.n (xq rfl (Lm (by omega) (by omega) (by omega) (by omega)))<|.z rfl) rfl fun g25=>CY (E1 2 rfl)<|De<|DO rfl<|Dc (by omega)
 refine yE<|Dd<|zV (.m rfl<|.n (xd rfl)<|.nil) rfl fun g26=>CY (E3 0 2 14 rfl)<|zC<|zh rfl (fun h7=>?_) (fun h7=>?_)<;>try simp only[CT,Z]at h7
 ·have e3:=Vz h7
  refine zV (.m rfl<|.n (xr rfl (by omega) (Ql _))<|.z rfl) rfl fun g27=>CY (E2 0 2 rfl)<|zC<|(zG [] (.m rfl<|.n (xo rfl (wo (by omega)))<|.z rfl) ff rfl fun g28=>CY (E2 0 2 rfl) ?_)
  refine zW (.mm rfl<|.n (xg El Pu rfl (gU (by omega) (by omega)))<|.n (FX underlying9 (.k rfl) (.t rfl) (by omega) (Hj (by omega) (by omega)))<|.n (xg Pu KL rfl (FW (by omega) (by omega)))<|.n (xq rfl (Lm (by omega) (by omega) (by omega) (by omega)))<|.z rfl) rfl fun g29=>CY (E1 2 rfl)<|De<|DO rfl<|Dc (by omega)
 refine yE<|zW (.mm rfl<|.n (xg El Pu rfl (gU (by omega) (by omega)))<|.n (FX underlying9 (.k rfl) (.t rfl) (by omega) (Hj (by omega) (by omega)))<|.n (xg Pu KL rfl (FW (by omega) (by omega)))<|.n (xq rfl (Lm (by omega) (by omega) (by omega) (by omega)))<|.z rfl) rfl fun g30=>CY (E1 2 rfl)<|De<|DO rfl<|Dc (by omega)
theorem oS{n:Nat}(hn:(CQ n).length≤250000000000):Ct prog 206 [DP .u64 (CQ n)] (I6 (bl n:Int)):=by
 refine Ct.of func206 rfl (by kernel_rfl) rfl fun c0=>zV (.b rfl<|.nil) rfl fun g1=>CY (E1 0 rfl)<|Dd<|zV (.m rfl<|.n (xv Df rfl)<|.n (xd rfl)<|.nil) rfl fun g2=>CY (E2 0 5 rfl)<|zC<|zh rfl (fun h1=>?_) (fun h1=>?_)<;>try simp only[CT,Z]at h1
 ·refine zV (.b rfl<|.nil) rfl fun g3=>CY (E1 2 rfl)<|De<|zD<|DO rfl<|Dc (dk (by have:=h1;omega))
 have gd:=(D9 n).at (k:=((CQ n).length-1:Int).toNat) (by have:=h1;omega)
 have hbb:=Ys (n:=n) (by have:=h1;omega)
 have hb4:=QI (t:=((CQ n).getD ((CQ n).length-1:Int).toNat 0).toNat) (k:=64) (by show _<18446744073709551616;omega)
 refine yE<|zW (.m rfl<|.n (xv Df rfl)<|.n (xh rfl (wo (by omega)))<|.n (Fi (.k rfl) (.t rfl) (wo (by omega)))<|.mm rfl<|.n (xv Df rfl)<|.n (xh rfl (wo (by omega)))<|.n (xx 0 Df rfl (by omega) (by omega))<|.n (xy Fa rfl)<|.n (zP (Wl gd.1 gd.2) (A1 rfl))<|.n (xq rfl (wo (by omega)))<|.z rfl) rfl fun g4=>CY (E1 2 rfl)<|De<|DO rfl<|Dc hbb
theorem cM{z:Int}(z0:0<z)(z1:z<18446744073709551616):Ct prog 164 [CW (.int .u64 z)] (I6 (Jf z.toNat:Int)):=by
 refine Ct.of func164 rfl (by kernel_rfl) rfl fun c0=>?_
 obtain⟨hal,htz⟩:=ix z0 z1
 have hdk:=pj _ htz
 obtain⟨K,hK⟩: ∃ K,K=2^Jf z.toNat*285870213051353865 % 18446744073709551616:=⟨_,rfl⟩
 obtain⟨I,hI⟩: ∃ I,I=K/288230376151711744:=⟨_,rfl⟩
 rw[←hK,←hI]at hdk
 have hm1:IntKind.u64.wrap (((2^Jf z.toNat:Nat):Int)*285870213051353865)=((K:Nat):Int):=by rw[hK];exact j6 _
 have hm2:((K:Nat):Int).fdiv (2^min (58:Int).toNat IntKind.u64.bits)=((I:Nat):Int):=by rw[hI];exact wx _
 obtain⟨J,hJ⟩: ∃ J,J=2^Jf z.toNat:=⟨_,rfl⟩
 rw[←hJ]at hal hm1
 clear hK hI hJ
 refine zV (.b rfl<|.nil) rfl fun g1=>CY (E1 0 rfl)<|Dd<|zV (.m rfl<|.n (xd rfl)<|.nil) rfl fun g2=>CY (E2 0 4 rfl)<|zC<|zh rfl (fun h1=>?_) (fun h1=>?_)<;>try simp only[CT,Z]at h1
 ·exact absurd h1 (by omega)
 refine yE<|zW (.mm rfl<|.n (Nh (.t rfl) (sT z0 z1))<|.n (Ep (by simp) (.t rfl) (.t rfl) hal)<|.n (Fi (.t rfl) (.k rfl) hm1)<|.n (xr rfl (by omega) hm2)<|.n (MF (base:=S8) xV (fun c _=>⟨nR,.inl rfl,rfl⟩) (.t rfl) (by omega) (by omega))<|.n (yC sc5 (Lk.sub (sG hdk.2) (.t rfl)) rfl)<|.n (xg Pu KL rfl (zO (by rw[hdk.1];omega) (by rw[hdk.1];omega)))<|.z rfl) rfl fun g3=>CY (E1 2 rfl)<|De<|DO rfl<|Dc hdk.1
theorem dm{x n:Nat}(hlm:(CQ x).length≤250000000000)(hn:n≤8000000000000):Ct prog 214 [DP .u64 (CQ x),CW (.int .u64 (n:Int))] (EP [DP .u64 (CQ (x/2^n)),CW (.bool (decide (x % 2^n≠0)))]):=by
 refine Ct.of func214 rfl (by kernel_rfl) rfl fun c0=>ER 0 rfl fun hlen=>?_
 have hs64:n % 64<64:=Ap _ (by omega)
 obtain⟨hp1,hp2,hp3,hp4⟩:=HQ hs64
 have hm:=D9 x
 refine zV (.b rfl<|.b rfl<|.nil) rfl fun g1=>CY (E2 0 1 rfl)<|Dd<|zV (.m rfl<|.n (Gq (.t rfl) (.k rfl) (by omega) (rA n (by omega)))<|.m rfl<|.n (xv Df rfl)<|.n (xg KL I8 rfl (DD (by omega) (by omega)))<|.n (xw rfl)<|.nil) rfl fun g2=>CY (E3 0 1 18 rfl)<|zC<|zh rfl (fun h1=>?_) (fun h1=>?_)<;>try simp only[CT,Z]at h1
 ·refine zV (.m rfl<|.n (xv Df rfl)<|.n (xd rfl)<|.b rfl<|.z rfl) rfl fun g3=>CY (E2 4 5 rfl)<|De<|zD<|zQ (.cons (.tmp (.t rfl))<|.cons (.tmp (.t rfl))<|.nil) (zM (Dk (.cons (Dr (mk:=Eh .u64))<|.cons zL<|.nil)) ?_)
  exact Zo (.cons (D3 (by rw[X9 (by omega),DZ]))<|.cons (D3 (by rw[vB (n:=n) (by omega)]))<|.nil)
 have hwl:n/64<(CQ x).length:=by omega
 have gw:0≤(CQ x).getD ((n/64:Nat):Int).toNat 0∧(CQ x).getD ((n/64:Nat):Int).toNat 0<18446744073709551616:=hm.at (k:=n/64) hwl
 have hlt:(((CQ x).take (n/64)).length:Int)=((n/64:Nat):Int):=by rw[A9];omega
 have hlt3:(((CQ x).take ((n/64:Nat):Int).toNat).length:Int)=((n/64:Nat):Int):=hlt
 refine yE<|zW (.m rfl<|.n (Gq (.t rfl) (.k rfl) (by omega) (rA n (by omega)))<|.n (xg I8 KL rfl (wo (by omega)))<|.m rfl<|.n (Gr (.t rfl) (.k rfl) (by omega) (wg n))<|.a rfl<|.z rfl) rfl fun g4=>CY (E3 0 6 7 rfl)<|zW (.mm rfl<|.n (xx 0 Df rfl (by omega) (by omega))<|.n (xy Fa rfl)<|.m rfl<|.n (GD (.k rfl) (.t rfl) (by omega) (a1k hs64))<|.n (xh rfl (z5 hs64))<|.n (Ep (by simp) (.t rfl) (.t rfl) (dc gw hs64))<|.z rfl) rfl fun g5=>CY (E4 0 6 7 8 rfl)<|Dd<|zV (.mm rfl<|.n (K0 Df (.t rfl) (.t rfl) (by omega) (by omega))<|.n (xv Df rfl)<|.n (zA (.k rfl))<|.nil) rfl fun g6=>CY (E7 0 6 7 8 37 38 39 rfl)<|zC<|zT<|D4 (α:=Nat×Int) (fun z=>Vh ((CQ x).take (n/64)) ((CQ x).getD (n/64) 0 % 2^(n % 64)) z.1 z.2) (fun z=>n/64-z.1) (fun z restR=>(39,I6 (z.1:Int))::(8,CW (.int .u64 z.2))::restR) (fun z restS=>restS) (ρc:=[(0,_),(6,_),(7,_),(37,_),(38,_)]) (σc:=[]) (0,(CQ x).getD (n/64) 0 % 2^(n % 64)) (by exact ef (qN gw)) (Es (fun _=>E7 39 8 0 6 7 37 38 rfl) fun _=>R0) (fun z hI=>?_)
 obtain⟨i,c⟩:=z
 try simp only at hI
 show J _ _ ((39,I6 (i:Int))::(8,CW (.int .u64 c))::_) (_) _ _
 have hIi:=hI.hi
 refine zV (.n (xw rfl)<|.nil) rfl fun g7=>CY (E8 0 6 7 8 37 38 39 40 rfl)<|Dd<|zh rfl (fun h2=>?_) (fun h2=>?_)<;>try simp only[CT,Z]at h2
 ·have hIc:=hI.hc
  have gi:=(hm.take (n/64)).at (k:=((i:Nat):Int).toNat) (by omega)
  refine yE<|Dd<|zT<|zV (.n (xx 0 Df rfl (by omega) (by omega))<|.n (xy Fa rfl)<|.z rfl) rfl fun g8=>CY (E8 0 6 7 8 10 37 38 39 rfl)<|zC<|(zG [] (.mm rfl<|.n (Ep (by simp) (.t rfl) (.t rfl) rfl)<|.z rfl) ff rfl fun g9=>CY (E7 0 6 7 8 37 38 39 rfl) ?_)
  refine zR<|zC<|(zG [] (.n (xo rfl (wo (by omega)))<|.m rfl<|.nil) ff rfl fun g10=>CY (E7 0 6 7 8 37 38 39 rfl) ?_)
  exact yW (i+1,Ej .or .u64 c (((CQ x).take (n/64)).getD i 0)) (by exact ee (hm.take _) hI (by omega)) (by show n/64-(_+1)<_;omega) (Es (fun _=>E7 39 8 0 6 7 37 38 rfl) fun _=>R0)
 have hli:=e9 hwl hI (by have:=hI.hi;omega)
 have hrl:((List.replicate (((CQ x).length:Int) -((n/64:Nat):Int)).toNat (0:Int)).length:Int)=((CQ x).length:Int) -((n/64:Nat):Int):=by rw[Am];omega
 refine D6<|zE<|zE<|zS<|zC<|DS<|zV (.m rfl<|.n (xv Df rfl)<|.m rfl<|.n (Eb (.t rfl) (.t rfl) (wo (by omega)))<|.w 0 (DI (mk:=Eh .u64) 0 0 Df M5 rfl (fun _=>⟨rfl,rfl⟩) (.t rfl) (.t rfl) (by omega) (by omega) (by omega) (by omega) rfl)<|.n (yX rfl rfl)<|.nil) rfl fun g11=>CZ 0 (E5 0 6 7 8 11 rfl) rfl<|Dd<|zV (.m rfl<|.r 0 (EZ 0 Df (.t rfl) rfl)<|.n (zA (.k rfl))<|.nil) rfl fun g12=>CZ 0 (E7 0 6 7 8 11 53 54 rfl) rfl<|zC<|zT<|D4 (α:=Nat) (fun j=>j≤(CQ x).length-n/64) (fun j=>(CQ x).length-n/64-j) (fun j restR=>(54,I6 (j:Int))::restR) (fun j restS=>DC (g11 51) (Eh .u64) (K2 (CQ x) (n/64) (n % 64) j) 71::restS) (ρc:=[(0,_),(6,_),(7,_),(8,_),(11,_),(53,_)]) (σc:=[]) 0 (by exact A7 _) (To.pick (fun _=>E7 54 0 6 7 8 11 53 rfl) (fun _=> .sub 0 rfl (yQ (by rw[Zk,show(((CQ x).length:Int) -((n/64:Nat):Int)).toNat=(CQ x).length-n/64 by omega]))<|.nil) (ks:=[0]) rfl) (fun j hJ=>?_)
 refine zV (.n (xw rfl)<|.nil) rfl fun g13=>CZ 0 (E8 0 6 7 8 11 53 54 55 rfl) rfl<|Dd<|zh rfl (fun h3=>?_) (fun h3=>?_)<;>try simp only[CT,Z]at h3
 ·have hil:=NU (m:=CQ x) (w:=n/64) (s:=n % 64) (i:=j) (by omega)
  have gx:=H1 hm (n/64+j)
  have gy:=H1 hm (n/64+j+1)
  refine yE<|Dd<|zT<|zV (.m rfl<|.z rfl) rfl fun g14=>CZ 0 (E8 0 6 7 8 11 12 53 54 rfl) rfl<|zC<|(zG [] (.mm rfl<|.mm rfl<|.m rfl<|.n (xq rfl (show IntKind.i64.wrap (((n/64:Nat):Int)+(j:Int))=((n/64+j:Nat):Int) by rw[zO (by omega) (by omega)];omega))<|.n (zP (IF) (A2 rfl))<|.m rfl<|.n (GV (.t rfl) (.t rfl) (by omega) (gg (by omega)))<|.mm rfl<|.m rfl<|.n (xq rfl (show IntKind.i64.wrap (((n/64:Nat):Int)+(j:Int))=((n/64+j:Nat):Int) by rw[zO (by omega) (by omega)];omega))<|.n (xo rfl (show IntKind.i64.wrap (((n/64+j:Nat):Int)+1)=((n/64+j+1:Nat):Int) by rw[zO (by omega) (by omega)];omega))<|.n (zP (IF) (A2 rfl))<|.m rfl<|.n (Eb (.k rfl) (.t rfl) (XD hs64))<|.n (GD (.t rfl) (.t rfl) (by omega) rfl)<|.n (Ep (by simp) (.t rfl) (.t rfl) (mK gx gy hs64))<|.r 0 (xz 0 Df rfl (by omega) (by omega))<|.w 0 (xA (mk:=Eh .u64) 0 rfl DY J4 rfl (by omega))<|.nil) ff rfl fun g15=>CZ 0 (E7 0 6 7 8 11 53 54 rfl) rfl ?_)
  refine zR<|zC<|(zG [] (.n (xo rfl (wo (by omega)))<|.m rfl<|.nil) ff rfl fun g16=>CZ 0 (E7 0 6 7 8 11 53 54 rfl) rfl ?_)
  exact yW (j+1) (by omega) (by omega) (To.pick (fun _=>E7 54 0 6 7 8 11 53 rfl) (fun _=> .sub 0 rfl (yQ (by rw[←fM (by omega) bZ];rfl))<|.nil) (ks:=[0]) rfl)
 have hil:=NU (m:=CQ x) (w:=n/64) (s:=n % 64) (i:=j) (by omega)
 refine D6<|zE<|zE<|zS<|zC<|yN (To.freeze 0 (fun _ h=>h) rfl Dz rfl)<|zV (.m rfl<|.n (zP (Iy (fL _ _ _ _)) ⟨(Lk.sub (Ed 0 rfl) (.t rfl)),trivial⟩)<|.m rfl<|.n (xd rfl)<|.a rfl<|.z rfl) rfl fun g17=>CY (E2 4 5 rfl)<|De<|Lt rfl<|Zo (.cons (D3 (by rw[mJ hwl (by omega)]))<|.cons (D3 (by rw[vC hli]))<|.nil)
theorem WD{x y:Int}(hx:0≤x∧x<18446744073709551616)(hy:0≤y∧y<18446744073709551616):Ct prog 215 [CW (.int .u64 (x)),CW (.int .u64 (y))] (EP [CW (.int .u64 (x*y/18446744073709551616)),CW (.int .u64 (x*y % 18446744073709551616))]):=by
 refine Ct.of func215 rfl (by kernel_rfl) rfl fun c0=>?_
 obtain⟨m1,m2,m3,m4,m5⟩:=m64 hx hy
 have m6:=vG m1.1 m5
 refine zV (.b rfl<|.b rfl<|.nil) rfl fun g1=>CY (E2 0 1 rfl)<|zW (.m rfl<|.n (Ep (by simp) (.t rfl) (.k rfl) (SH hx.1 hx.2))<|.z rfl) rfl fun g2=>CY (E3 0 1 6 rfl)<|zW (.m rfl<|.n (xr rfl (by omega) (IS _))<|.z rfl) rfl fun g3=>CY (E4 0 1 6 7 rfl)<|zW (.m rfl<|.n (Ep (by simp) (.t rfl) (.k rfl) (SH hy.1 hy.2))<|.z rfl) rfl fun g4=>CY (E5 0 1 6 7 8 rfl)<|zW (.m rfl<|.n (xr rfl (by omega) (IS _))<|.z rfl) rfl fun g5=>CY (E6 0 1 6 7 8 9 rfl)<|zW (.mm rfl<|.n (xu rfl (DD (by omega) (by omega)))<|.z rfl) rfl fun g6=>CY (E7 0 1 6 7 8 9 10 rfl)<|zW (.mm rfl<|.n (xu rfl (DD (by omega) (by omega)))<|.m rfl<|.n (xr rfl (by omega) (IS _))<|.n (xq rfl (DD (by omega) (by omega)))<|.z rfl) rfl fun g7=>CY (E6 0 1 6 7 9 11 rfl)<|zW (.m rfl<|.n (Ep (by simp) (.t rfl) (.k rfl) (SH (by omega) (by omega)))<|.z rfl) rfl fun g8=>CY (E7 0 1 6 7 9 11 12 rfl)<|zW (.m rfl<|.n (xr rfl (by omega) (IS _))<|.z rfl) rfl fun g9=>CY (E7 0 1 6 7 9 12 13 rfl)<|zW (.mm rfl<|.m rfl<|.n (xu rfl (DD (by omega) (by omega)))<|.n (xq rfl (DD (by omega) (by omega)))<|.z rfl) rfl fun g10=>CY (E6 0 1 7 9 12 13 rfl)<|zW (.mm rfl<|.n (xu rfl (DD (by omega) (by omega)))<|.m rfl<|.n (xq rfl (DD (by omega) (by omega)))<|.m rfl<|.n (xr rfl (by omega) (IS _))<|.n (xq rfl (DD (by omega) (by omega)))<|.z rfl) rfl fun g11=>CY (E3 0 1 4 rfl)<|zW (.mm rfl<|.n (xu rfl (Nt _))<|.z rfl) rfl fun g12=>CY (E2 4 5 rfl)<|De<|Lt rfl ?_
 exact D3 (by rw[m6])
theorem U8{a b c d:Int}(ha:0≤a∧a<18446744073709551616)(hb:0≤b∧b<18446744073709551616)(hc:0≤c∧c<18446744073709551616)(hd:0≤d∧d<18446744073709551616):Ct prog 169 [CW (.int .u64 (a)),CW (.int .u64 (b)),CW (.int .u64 (c)),CW (.int .u64 (d))] (EP [CW (.int .u64 ((a*b+c+d)/18446744073709551616)),CW (.int .u64 ((a*b+c+d) % 18446744073709551616))]):=by
 refine Ct.of func169 rfl (by kernel_rfl) rfl fun c0=>?_
 have hp:=O3 ha hb
 obtain⟨f1,f2,f3,f4,f5⟩:=pR hp hc hd
 refine zV (.b rfl<|.b rfl<|.nil) rfl fun g1=>CY (E4 0 1 2 3 rfl)<|zW (.mm rfl<|.n (zP (WD ha hb) (A2 rfl))<|.m rfl<|.n (xk rfl)<|.n (xk rfl)<|.a rfl<|.z rfl) rfl fun g2=>CY (E4 2 3 10 11 rfl)<|zW (.mm rfl<|.n (Ky cZ (.t rfl) (.t rfl) (.k rfl) (by omega) hc.1 (by omega))<|.m rfl<|.n (xk rfl)<|.n (xk rfl)<|.a rfl<|.z rfl) rfl fun g3=>CY (E4 3 10 11 12 rfl)<|zW (.mm rfl<|.n (xq rfl (DD f1.1 f1.2))<|.z rfl) rfl fun g4=>CY (E3 3 10 11 rfl)<|zW (.mm rfl<|.n (Ky cZ (.t rfl) (.t rfl) (.k rfl) f2.1 hd.1 (by omega))<|.m rfl<|.n (xk rfl)<|.n (xk rfl)<|.a rfl<|.z rfl) rfl fun g5=>CY (E3 10 11 12 rfl)<|zW (.mm rfl<|.n (xq rfl (DD f3.1 f3.2))<|.m rfl<|.a rfl<|.z rfl) rfl fun g6=>CY (E2 8 9 rfl)<|De<|Lt rfl<|D3 (by rw[f4,f5])
theorem JZ{x:List Int}{d m:Int}(hx:DJ x)(hlx:x.length≤250000000000)(hd:0≤d∧d<18446744073709551616)(hm:0≤m∧m<18446744073709551616):Ct prog 247 [DP .u64 x,CW (.int .u64 (d)),CW (.int .u64 (m))] (DP .u64 (CQ (CS x*d+m).toNat)):=by
 refine Ct.of func247 rfl (by kernel_rfl) rfl fun c0=>ER 0 rfl fun hlen=>zV (.b rfl<|.nil) rfl fun g1=>CY (E3 0 1 2 rfl)<|zC<|DS<|zV (.m rfl<|.n (xv Df rfl)<|.n (xo rfl (wo (by omega)))<|.w 0 (DI (mk:=Eh .u64) 0 0 Df M5 rfl (fun _=>⟨rfl,rfl⟩) (.t rfl) (.t rfl) (by omega) (by omega) (by omega) (by omega) rfl)<|.n (yX rfl rfl)<|.nil) rfl fun g2=>CZ 0 (E4 0 1 2 7 rfl) rfl<|Dd<|zV (.m rfl<|.n (xv Df rfl)<|.n (zA (.k rfl))<|.nil) rfl fun g3=>CZ 0 (E7 0 1 2 7 14 15 16 rfl) rfl<|zC<|zT<|D4 (α:=Nat×List Int×Int) (fun y=>hZ x y.2.1 d m y.1 y.2.2) (fun y=>x.length-y.1) (fun y restR=>(16,I6 (y.1:Int))::(2,CW (.int .u64 (y.2.2)))::restR) (fun y restS=>DC (g2 13) (Eh .u64) y.2.1 71::restS) (ρc:=[(0,_),(1,_),(7,_),(14,_),(15,_)]) (σc:=[]) (0,List.replicate (x.length+1) 0,m) (by exact kJ hm) (To.pick (fun _=>E7 16 2 0 1 7 14 15 rfl) (fun _=> .sub 0 rfl (yQ (by rw[show((x.length:Int)+1).toNat=x.length+1 by omega]))<|.nil) (ks:=[0]) rfl) (fun y hI=>?_)
 obtain⟨k,l,c⟩:=y
 try simp only at hI
 show J _ _ ((16,I6 (k:Int))::(2,CW (.int .u64 (c)))::_) (DC (g2 13) (Eh .u64) l 71::_) _ _
 refine zV (.n (xw rfl)<|.nil) rfl fun g4=>CZ 0 (E8 0 1 2 7 14 15 16 17 rfl) rfl<|Dd<|zh rfl (fun h1=>?_) (fun h1=>?_)<;>try simp only[CT,Z]at h1
 ·have hIl:=hI.hl
  have hIc:=hI.hc
  have gx:0≤(x.getD ((k:Nat):Int).toNat 0)∧(x.getD ((k:Nat):Int).toNat 0)<18446744073709551616:=hx.at (k:=k) (by omega)
  have gm:=O3 gx hd
  obtain⟨t,ht⟩: ∃ t,t=x.getD k 0*d+0+c:=⟨_,rfl⟩
  refine yE<|Dd<|zT<|zV (.m rfl<|.n (xx 0 Df rfl (by omega) (by omega))<|.n (xy Fa rfl)<|.a rfl<|.z rfl) rfl fun g5=>CZ 0 (E9 0 1 2 7 8 9 14 15 16 rfl) rfl<|zC<|(zG [] (.mm rfl<|.mm rfl<|.m rfl<|.n (zP (U8 gx hd (by omega) hIc) ⟨(.t rfl),(.t rfl),(.k rfl),(.t rfl),trivial⟩)<|.m rfl<|.n (xk rfl)<|.n (xk rfl)<|.a rfl<|.r 0 (xz 0 Df rfl (by omega) (by omega))<|.w 0 (xA (mk:=Eh .u64) 0 rfl DY J4 rfl (by omega))<|.nil) ff rfl fun g6=>CZ 0 (E7 0 1 2 7 14 15 16 rfl) rfl ?_)
  refine zR<|zC<|(zG [] (.n (xo rfl (wo (by omega)))<|.m rfl<|.nil) ff rfl fun g7=>CZ 0 (E7 0 1 2 7 14 15 16 rfl) rfl ?_)
  exact yW (k+1,l.set k ((x.getD k 0*d+0+c) % 18446744073709551616),(x.getD k 0*d+0+c)/18446744073709551616) (by exact kI hx hd hI (by omega) rfl) (by show x.length-(_+1)<_;omega) (Es (fun _=>E7 16 2 0 1 7 14 15 rfl) fun _=>R1 0 rfl)
 have hIk:=hI.hk
 obtain rfl:k=x.length:=by omega
 have hIl:=hI.hl
 obtain⟨hdg,hmg⟩:=kH hI
 refine D6<|zE<|zE<|zS<|zW (.mm rfl<|.n (xv Df rfl)<|.m rfl<|.r 0 (xz 0 Df rfl (by omega) (by omega))<|.w 0 (xA (mk:=Eh .u64) 0 rfl DY J4 rfl (by omega))<|.nil) rfl fun g8=>CZ 0 (E1 7 rfl) rfl<|zC<|yN (To.freeze 0 (fun _ h=>h) rfl Dz rfl)<|zV (.m rfl<|.n (zP (Iy hdg) ⟨(Lk.sub (Ed 0 rfl) (.t rfl)),trivial⟩)<|.z rfl) rfl fun g9=>CY (E1 6 rfl)<|De<|DO rfl<|D3 (congrArg (fun z=>DP .u64 (CQ z.toNat)) hmg)
theorem Jo{a b:List Int}(ha:DJ a)(hb:DJ b)(hla:a.length≤250000000000)(hlb:b.length≤250000000000):Ct prog 128 [DP .u64 a,DP .u64 b] (DP .u64 (CQ (CS a*CS b).toNat)):=by
 refine Ct.of func128 rfl (by kernel_rfl) rfl fun c0=>ER 0 rfl fun hlen=>ER 1 rfl fun hlen2=>zV (.b rfl<|.nil) rfl fun g1=>CY (E2 0 1 rfl)<|Dd<|zV (.m rfl<|.n (xv Df rfl)<|.n (xd rfl)<|.m rfl<|.n (gu rfl (fun hC=>(xB rfl)))<|.n (gu rfl (fun hC=>(yV Df (.w rfl hC))))<|.n (gu rfl (fun hC=>(oc rfl (.w rfl hC) (.k rfl) rfl)))<|.n (Fk (.t rfl) (fun h2=>(.w rfl h2)))<|.nil) rfl fun g2=>CY (E3 0 1 18 rfl)<|zC<|zh rfl (fun h1=>?_) (fun h1=>?_)<;>try simp only[CT,Z]at h1
 ·refine zV (.b rfl<|.nil) rfl fun g3=>CY (E1 4 rfl)<|De<|zD<|zQ (.cons (.tmp (.t rfl))<|.nil) (zM (yD (Dr (mk:=Eh .u64))) ?_)
  exact D3 (h1.elim (fun h9=>by rw[show a=[]from BC.1 (by omega)];simp[CS,DZ]) (fun h9=>by rw[show b=[]from BC.1 (by omega)];simp[CS,DZ]))
 refine yE<|zC<|DS<|zV (.m rfl<|.n (xv Df rfl)<|.m rfl<|.n (xv Df rfl)<|.n (xq rfl (wo (by omega)))<|.w 0 (DI (mk:=Eh .u64) 0 0 Df M5 rfl (fun _=>⟨rfl,rfl⟩) (.t rfl) (.t rfl) (by omega) (by omega) (by omega) (by omega) rfl)<|.n (yX rfl rfl)<|.nil) rfl fun g4=>CZ 0 (E3 0 1 5 rfl) rfl<|Dd<|zV (.m rfl<|.n (xv Df rfl)<|.n (zA (.k rfl))<|.nil) rfl fun g5=>CZ 0 (E5 1 5 25 26 27 rfl) rfl<|zC<|zT<|D4 (α:=Nat×List Int) (fun x=>SC a b x.2 x.1) (fun x=>a.length-x.1) (fun x restR=>(27,I6 (x.1:Int))::restR) (fun x restS=>DC (g4 24) (Eh .u64) x.2 71::restS) (ρc:=[(1,_),(5,_),(25,_),(26,_)]) (σc:=[]) (0,List.replicate (a.length+b.length) 0) (by exact YZ rfl) (To.pick (fun _=>E5 27 1 5 25 26 rfl) (fun _=> .sub 0 rfl (yQ (by rw[show((a.length:Int)+(b.length:Int)).toNat=a.length+b.length by omega]))<|.nil) (ks:=[0]) rfl) (fun x hI=>?_)
 obtain⟨i,l0⟩:=x
 try simp only at hI
 show J _ _ ((27,I6 (i:Int))::_) (DC (g4 24) (Eh .u64) l0 71::_) _ _
 refine zV (.n (xw rfl)<|.nil) rfl fun g6=>CZ 0 (E6 1 5 25 26 27 28 rfl) rfl<|Dd<|zh rfl (fun h2=>?_) (fun h2=>?_)<;>try simp only[CT,Z]at h2
 ·have hIi:=hI.hi
  have hIl:=hI.hl
  have ga:0≤(a.getD ((i:Nat):Int).toNat 0)∧(a.getD ((i:Nat):Int).toNat 0)<18446744073709551616:=ha.at (k:=i) (by omega)
  refine yE<|Dd<|zT<|zV (.m rfl<|.n (xx 0 Df rfl (by omega) (by omega))<|.n (xy Fa rfl)<|.a rfl<|.z rfl) rfl fun g7=>CZ 0 (E7 1 5 6 7 25 26 27 rfl) rfl<|zW (.b rfl<|.nil) rfl fun g8=>CZ 0 (E8 1 5 6 7 8 25 26 27 rfl) rfl<|Dd<|zV (.m rfl<|.n (xv Df rfl)<|.n (zA (.k rfl))<|.nil) rfl fun g9=>CZ 0 (Ec 1 5 6 7 8 25 26 27 32 33 rfl<|E1 34 rfl) rfl<|zC<|zT<|D4 (α:=Nat×List Int×Int) (fun y=>Vk a b l0 y.2.1 i y.1 y.2.2) (fun y=>b.length-y.1) (fun y restR=>(34,I6 (y.1:Int))::(8,CW (.int .u64 (y.2.2)))::restR) (fun y restS=>DC (g4 24) (Eh .u64) y.2.1 71::restS) (ρc:=[(1,_),(5,_),(6,_),(7,_),(25,_),(26,_),(27,_),(32,_),(33,_)]) (σc:=[]) (0,l0,0) (by exact YW hI) (Es (fun _=>Ec 34 8 1 5 6 7 25 26 27 32 rfl<|E1 33 rfl) fun _=>R1 0 rfl) (fun y hJ=>?_)
  obtain⟨k,l,c⟩:=y
  try simp only at hJ
  show J _ _ ((34,I6 (k:Int))::(8,CW (.int .u64 (c)))::_) (DC (g4 24) (Eh .u64) l 71::_) _ _
  refine zV (.n (xw rfl)<|.nil) rfl fun g10=>CZ 0 (Ec 1 5 6 7 8 25 26 27 32 33 rfl<|E2 34 35 rfl) rfl<|Dd<|zh rfl (fun h3=>?_) (fun h3=>?_)<;>try simp only[CT,Z]at h3
  ·have hJk:=hJ.hk
   have hJl:=hJ.hl
   have hJc:=hJ.hc
   have gb:0≤(b.getD ((k:Nat):Int).toNat 0)∧(b.getD ((k:Nat):Int).toNat 0)<18446744073709551616:=hb.at (k:=k) (by omega)
   have gl:=hJ.hd.at (k:=((i:Int)+(k:Int)).toNat) (by omega)
   refine yE<|Dd<|zT<|zV (.m rfl<|.n (xx 0 Df rfl (by omega) (by omega))<|.n (xy Fa rfl)<|.a rfl<|.z rfl) rfl fun g11=>CZ 0 (Ec 1 5 6 7 8 9 10 25 26 27 rfl<|E3 32 33 34 rfl) rfl<|zC<|(zG [] (.mm rfl<|.m rfl<|.n (xq rfl (wo (by omega)))<|.mm rfl<|.mm rfl<|.m rfl<|.n (xq rfl (wo (by omega)))<|.r 0 (xz 0 Df rfl (by omega) (by omega))<|.r 0 (DH 0 0 Fa (.t rfl) rfl (by omega))<|.m rfl<|.n (zP (U8 ga gb gl hJc) (A4 rfl))<|.m rfl<|.n (xk rfl)<|.n (xk rfl)<|.a rfl<|.r 0 (xz 0 Df rfl (by omega) (by omega))<|.w 0 (xA (mk:=Eh .u64) 0 rfl DY J4 rfl (by omega))<|.nil) ff rfl fun g12=>CZ 0 (Ec 1 5 6 7 8 25 26 27 32 33 rfl<|E1 34 rfl) rfl ?_)
   refine zR<|zC<|(zG [] (.n (xo rfl (wo (by omega)))<|.m rfl<|.nil) ff rfl fun g13=>CZ 0 (Ec 1 5 6 7 8 25 26 27 32 33 rfl<|E1 34 rfl) rfl ?_)
   exact yW (k+1,l.set (i+k) ((a.getD i 0*b.getD k 0+l.getD (i+k) 0+c) % 18446744073709551616),(a.getD i 0*b.getD k 0+l.getD (i+k) 0+c)/18446744073709551616) (by exact YV ha hb hJ (by omega) (by omega) hI.hl rfl) (by show b.length-(_+1)<_;omega) (Es (fun _=>Ec 34 8 1 5 6 7 25 26 27 32 rfl<|E1 33 rfl) fun _=>R1 0 rfl)
  have hJk:=hJ.hk
  have hJl:=hJ.hl
  have hJc:=hJ.hc
  refine D6<|zE<|zE<|zS<|zC<|(zG [] (.mm rfl<|.m rfl<|.n (xv Df rfl)<|.n (xq rfl (wo (by omega)))<|.m rfl<|.r 0 (xz 0 Df rfl (by omega) (by omega))<|.w 0 (xA (mk:=Eh .u64) 0 rfl DY J4 rfl (by omega))<|.nil) ff rfl fun g14=>CZ 0 (E5 1 5 25 26 27 rfl) rfl ?_)
  refine zR<|zC<|(zG [] (.n (xo rfl (wo (by omega)))<|.m rfl<|.nil) ff rfl fun g15=>CZ 0 (E5 1 5 25 26 27 rfl) rfl ?_)
  exact yW (i+1,l.set (i+b.length) c) (by exact YY hI hJ (by omega) (by omega)) (by show a.length-(_+1)<_;omega) (Es (fun _=>E5 27 1 5 25 26 rfl) fun _=>R1 0 rfl)
 obtain⟨hdg,hmg⟩:=YX hI (show i=a.length by have:=hI.hi;omega)
 refine D6<|zE<|zE<|zS<|zC<|yN (To.freeze 0 (fun _ h=>h) rfl Dz rfl)<|zV (.m rfl<|.n (zP (Iy hdg) ⟨(Lk.sub (Ed 0 rfl) (.t rfl)),trivial⟩)<|.z rfl) rfl fun g16=>CY (E1 4 rfl)<|De<|DO rfl<|D3 (congrArg (fun z=>DP .u64 (CQ z.toNat)) hmg)
theorem bn{z:Int}(z0:0≤z)(z1:z<18446744073709551616):Ct prog 212 [CW (.int .u64 (z))] (I6 (64-(bl z.toNat:Int))):=by
 refine Ct.of func212 rfl (by kernel_rfl) rfl fun c0=>?_
 have hbl:bl z.toNat≤64:=QI (k:=64) (by show _<18446744073709551616;omega)
 refine zV (.b rfl<|.nil) rfl fun g1=>CY (E1 0 rfl)<|zW (.m rfl<|.n (zP (Wl (by omega) (by omega)) (A1 rfl))<|.n (Eb (.k rfl) (.t rfl) (wo (by omega)))<|.z rfl) rfl fun g2=>CY (E1 2 rfl)<|De<|DO rfl<|zL
end Go.Proofs.YtgfanjebfjeneaaGreatDoor
