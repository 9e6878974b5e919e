/- Printed by a program of ours (walk.py): walks of the model: kinds, parts, motions, blocks. -/
import Derived.Test.YtgfanjebfjeneaaGreatDoorZqM1
import Derived.Test.YtgfanjebfjeneaaGreatDoorProg
import Derived.KernelRfl
import Derived.Test.YtgfanjebfjeneaaGreatDoorZqM11
import Derived.Test.YtgfanjebfjeneaaGreatDoorZqM15
import Derived.Test.YtgfanjebfjeneaaGreatDoorZqM2
import Derived.Test.YtgfanjebfjeneaaGreatDoorZqM16
set_option linter.unusedVariables false
set_option linter.unusedSimpArgs false
set_option maxRecDepth 20000
set_option maxHeartbeats 8000000
namespace Go.Proofs.YtgfanjebfjeneaaGreatDoor
open Go Go.Bn Go.Proofs.Tryz
attribute [local irreducible] OpOK
theorem P5{k:Int}:Ct prog 106 [I6 k] (I6 (H4 k)):=by
 refine Ct.of func106 rfl (by kernel_rfl) rfl fun c0=>zV (.b rfl<|.nil) rfl fun g1=>CY (E1 0 rfl)<|Dd<|zV (.m rfl<|.nil) rfl fun g2=>CY (E1 3 rfl)<|zC<|zT<|zF<|zV (.n (xd rfl)<|.z rfl) rfl fun g3=>CY (E2 3 4 rfl)<|zC<|zh rfl (fun h1=>?_) (fun h1=>?_)<;>try simp only[CT,Z]at h1
 ·refine yE<|zC<|zh rfl (fun h2=>?_) (fun h2=>?_)<;>try simp only[CT,Z]at h2
  ·refine zV (.b rfl<|.nil) rfl fun g4=>CY (E1 2 rfl)<|De<|yP<|zD<|DO rfl ?_
   first|exact Dc (Il (by omega)).symm|exact Dc (Im (by omega)).symm|exact Dc (Io (by omega)).symm|exact Dc (Ip (by omega) (by omega) (by omega)).symm
  refine zV (.n (xd rfl)<|.z rfl) rfl fun g5=>CY (E2 3 8 rfl)<|zC<|zh rfl (fun h3=>?_) (fun h3=>?_)<;>try simp only[CT,Z]at h3
  ·refine zV (.b rfl<|.nil) rfl fun g6=>CY (E1 2 rfl)<|De<|yP<|zD<|DO rfl ?_
   first|exact Dc (Il (by omega)).symm|exact Dc (Im (by omega)).symm|exact Dc (Io (by omega)).symm|exact Dc (Ip (by omega) (by omega) (by omega)).symm
  refine zV (.n (xd rfl)<|.z rfl) rfl fun g7=>CY (E1 10 rfl)<|zC<|zh rfl (fun h4=>?_) (fun h4=>?_)<;>try simp only[CT,Z]at h4
  ·refine zV (.b rfl<|.nil) rfl fun g8=>CY (E1 2 rfl)<|De<|yP<|zD<|DO rfl ?_
   first|exact Dc (Il (by omega)).symm|exact Dc (Im (by omega)).symm|exact Dc (Io (by omega)).symm|exact Dc (Ip (by omega) (by omega) (by omega)).symm
  refine yE<|zR<|zW (.b rfl<|.nil) rfl fun g9=>CY (E1 2 rfl)<|De<|DO rfl ?_
  first|exact Dc (Il (by omega)).symm|exact Dc (Im (by omega)).symm|exact Dc (Io (by omega)).symm|exact Dc (Ip (by omega) (by omega) (by omega)).symm
 refine zV (.n (xd rfl)<|.z rfl) rfl fun g10=>CY (E2 3 4 rfl)<|zC<|zh rfl (fun h5=>?_) (fun h5=>?_)<;>try simp only[CT,Z]at h5
 ·refine yE<|zC<|zh rfl (fun h6=>?_) (fun h6=>?_)<;>try simp only[CT,Z]at h6
  ·refine zV (.b rfl<|.nil) rfl fun g11=>CY (E1 2 rfl)<|De<|yP<|zD<|DO rfl ?_
   first|exact Dc (Il (by omega)).symm|exact Dc (Im (by omega)).symm|exact Dc (Io (by omega)).symm|exact Dc (Ip (by omega) (by omega) (by omega)).symm
  refine zV (.n (xd rfl)<|.z rfl) rfl fun g12=>CY (E2 3 8 rfl)<|zC<|zh rfl (fun h7=>?_) (fun h7=>?_)<;>try simp only[CT,Z]at h7
  ·refine zV (.b rfl<|.nil) rfl fun g13=>CY (E1 2 rfl)<|De<|yP<|zD<|DO rfl ?_
   first|exact Dc (Il (by omega)).symm|exact Dc (Im (by omega)).symm|exact Dc (Io (by omega)).symm|exact Dc (Ip (by omega) (by omega) (by omega)).symm
  refine zV (.n (xd rfl)<|.z rfl) rfl fun g14=>CY (E1 10 rfl)<|zC<|zh rfl (fun h8=>?_) (fun h8=>?_)<;>try simp only[CT,Z]at h8
  ·refine zV (.b rfl<|.nil) rfl fun g15=>CY (E1 2 rfl)<|De<|yP<|zD<|DO rfl ?_
   first|exact Dc (Il (by omega)).symm|exact Dc (Im (by omega)).symm|exact Dc (Io (by omega)).symm|exact Dc (Ip (by omega) (by omega) (by omega)).symm
  refine yE<|zR<|zW (.b rfl<|.nil) rfl fun g16=>CY (E1 2 rfl)<|De<|DO rfl ?_
  first|exact Dc (Il (by omega)).symm|exact Dc (Im (by omega)).symm|exact Dc (Io (by omega)).symm|exact Dc (Ip (by omega) (by omega) (by omega)).symm
 refine(zG [] (.n (xd rfl)<|.z rfl) ff rfl fun g17=>CY (E2 3 4 rfl) ?_)
 refine zC<|zh rfl (fun h9=>?_) (fun h9=>?_)<;>try simp only[CT,Z]at h9
 ·refine zV (.b rfl<|.nil) rfl fun g18=>CY (E1 2 rfl)<|De<|yP<|zD<|DO rfl ?_
  first|exact Dc (Il (by omega)).symm|exact Dc (Im (by omega)).symm|exact Dc (Io (by omega)).symm|exact Dc (Ip (by omega) (by omega) (by omega)).symm
 refine zV (.n (xd rfl)<|.z rfl) rfl fun g19=>CY (E2 3 8 rfl)<|zC<|zh rfl (fun h10=>?_) (fun h10=>?_)<;>try simp only[CT,Z]at h10
 ·refine zV (.b rfl<|.nil) rfl fun g20=>CY (E1 2 rfl)<|De<|yP<|zD<|DO rfl ?_
  first|exact Dc (Il (by omega)).symm|exact Dc (Im (by omega)).symm|exact Dc (Io (by omega)).symm|exact Dc (Ip (by omega) (by omega) (by omega)).symm
 refine zV (.n (xd rfl)<|.z rfl) rfl fun g21=>CY (E1 10 rfl)<|zC<|zh rfl (fun h11=>?_) (fun h11=>?_)<;>try simp only[CT,Z]at h11
 ·refine zV (.b rfl<|.nil) rfl fun g22=>CY (E1 2 rfl)<|De<|yP<|zD<|DO rfl ?_
  first|exact Dc (Il (by omega)).symm|exact Dc (Im (by omega)).symm|exact Dc (Io (by omega)).symm|exact Dc (Ip (by omega) (by omega) (by omega)).symm
 refine yE<|zR<|zW (.b rfl<|.nil) rfl fun g23=>CY (E1 2 rfl)<|De<|DO rfl ?_
 first|exact Dc (Il (by omega)).symm|exact Dc (Im (by omega)).symm|exact Dc (Io (by omega)).symm|exact Dc (Ip (by omega) (by omega) (by omega)).symm
theorem bu{x:Nat}:Ct prog 192 [Dm x] (CW (.bool (DF x))):=by
 refine Ct.of func192 rfl (by kernel_rfl) rfl fun c0=>Yc 0 rfl fun hx hc=>zV (.b rfl<|.nil) rfl fun g1=>CY (E1 0 rfl)<|zW (.mm rfl<|.n (xG (by simp) rfl)<|.n (Hk (by simp) (.t rfl) (Lk.fk rfl (by decide+kernel)) rfl)<|.z rfl) rfl fun g2=>CY (E1 2 rfl)<|De<|DO rfl<|Ia (XF hx)
theorem rW{t:Int}:Ct prog 59 [I6 t] (zw (Hi t)):=by
 refine Ct.of func59 rfl (by kernel_rfl) rfl fun c0=>zV (.n (zB (Lk.fk rfl (by decide+kernel)))<|.b rfl<|.nil) rfl fun g1=>CY (E1 0 rfl)<|Dd<|zV (.m rfl<|.n (xd rfl)<|.m rfl<|.n (gu rfl (fun hC=>(xB rfl)))<|.n (gu rfl (fun hC=>(oc rfl (.w rfl hC) (.k rfl) rfl)))<|.n (Fk (.t rfl) (fun h2=>(.w rfl h2)))<|.nil) rfl fun g2=>CY (E2 0 9 rfl)<|zC<|zh rfl (fun h1=>?_) (fun h1=>?_)<;>try simp only[CT,Z]at h1
 ·refine zV (.n (zB (Lk.fk rfl (by decide+kernel)))<|.b rfl<|.nil) rfl fun g3=>CY (E2 2 3 rfl)<|De<|zD<|Lt rfl<|tI (if_pos h1).symm
 refine yE<|zW (.m rfl<|.n (WR qh yi (.t rfl) rfl)<|.n (FD (by simp) (.t rfl) (Lk.fk rfl (by decide+kernel)) rfl)<|.a rfl<|.b rfl<|.nil) rfl fun g4=>CY (E2 2 3 rfl)<|De<|Lt rfl<|tI (if_neg (by omega)).symm
theorem iV{p:H9}:Ct prog 150 [DL (Od p)] (I6 (Gu p)):=by
 refine Ct.of func150 rfl (by kernel_rfl) rfl fun c0=>?_
 have ho:=O8 p.k
 refine DS<|zV (.w 0 (xa 0 rfl yL rfl)<|.b rfl<|.nil) rfl fun g1=>CZ 0 (E1 1 rfl) rfl<|Dd<|zT<|zV (.n (xe QW rfl)<|.r 0 (xf 0 Ez rfl zJ rfl)<|.n (zP (P5) (A1 rfl))<|.n (xd rfl)<|.z rfl) rfl fun g2=>CZ 0 (E2 1 3 rfl) rfl<|zC<|zh rfl (fun h1=>?_) (fun h1=>?_)<;>try simp only[CT,Z]at h1
 ·refine zV (.b rfl<|.nil) rfl fun g3=>CY (E1 2 rfl)<|De<|yP<|zD<|DO rfl<|Dc (by unfold Gu;rw[if_pos h1])
 refine zV (.n (xe QX rfl)<|.r 0 (xf 0 Ez rfl zJ rfl)<|.n (xd rfl)<|.m rfl<|.n (gu rfl (fun hC=>(xe QX rfl)))<|.r 0 (gu rfl (fun hC=>(zN 0 Ez (.w rfl hC) rfl zJ rfl)))<|.n (gu rfl (fun hC=>(oc rfl (.w rfl hC) (.k rfl) rfl)))<|.n (Fk (.t rfl) (fun h2=>(.w rfl h2)))<|.z rfl) rfl fun g4=>CZ 0 (E2 1 8 rfl) rfl<|zC<|zh rfl (fun h2=>?_) (fun h2=>?_)<;>try simp only[CT,Z]at h2
 ·refine zV (.b rfl<|.nil) rfl fun g5=>CY (E1 2 rfl)<|De<|yP<|zD<|DO rfl<|Dc (by unfold Gu;rw[if_neg h1,if_pos h2])
 refine zV (.n (xe U5 rfl)<|.r 0 (xf 0 Fp rfl zJ rfl)<|.n (zP (bu) (A1 rfl))<|.n (EI (.t rfl))<|.m rfl<|.n (gu rfl (fun hC=>(xe U6 rfl)))<|.r 0 (gu rfl (fun hC=>(zN 0 Fp (.w rfl hC) rfl zJ rfl)))<|.n (gu rfl (fun hC=>(zP (bu) ⟨(.w rfl hC),trivial⟩)))<|.n (gu rfl (fun hC=>(EI (.w rfl hC))))<|.n (Fk (.t rfl) (fun h2=>(.w rfl h2)))<|.z rfl) rfl fun g6=>CZ 0 (E2 1 17 rfl) rfl<|zC<|zh rfl (fun h3=>?_) (fun h3=>?_)<;>try simp only[CT,Z]at h3
 ·refine zV (.b rfl<|.nil) rfl fun g7=>CY (E1 2 rfl)<|De<|yP<|zD<|DO rfl<|Dc (by unfold Gu;rw[if_neg h1,if_neg (by omega),if_pos h3])
 refine zV (.n (xe U5 rfl)<|.r 0 (xf 0 Fp rfl zJ rfl)<|.n (Hk (by simp) (.t rfl) (Lk.fk rfl (by decide+kernel)) rfl)<|.m rfl<|.n (gu rfl (fun hC=>(xe U6 rfl)))<|.r 0 (gu rfl (fun hC=>(zN 0 Fp (.w rfl hC) rfl zJ rfl)))<|.n (gu rfl (fun hC=>(Hk (by simp) (.w rfl hC) (Lk.fk rfl (by decide+kernel)) rfl)))<|.n (Fk (.t rfl) (fun h2=>(.w rfl h2)))<|.m rfl<|.n (gu rfl (fun hC=>(xe U5 rfl)))<|.r 0 (gu rfl (fun hC=>(zN 0 Fp (.w rfl hC) rfl zJ rfl)))<|.n (gu rfl (fun hC=>(Hk (by simp) (.w rfl hC) (Lk.fk rfl (by decide+kernel)) rfl)))<|.n (Fk (.t rfl) (fun h2=>(.w rfl h2)))<|.m rfl<|.n (gu rfl (fun hC=>(xe U6 rfl)))<|.r 0 (gu rfl (fun hC=>(zN 0 Fp (.w rfl hC) rfl zJ rfl)))<|.n (gu rfl (fun hC=>(Hk (by simp) (.w rfl hC) (Lk.fk rfl (by decide+kernel)) rfl)))<|.n (Fk (.t rfl) (fun h2=>(.w rfl h2)))<|.z rfl) rfl fun g8=>CY (E1 28 rfl)<|zC<|zh rfl (fun h4=>?_) (fun h4=>?_)<;>try simp only[CT,Z]at h4
 ·refine zV (.b rfl<|.nil) rfl fun g9=>CY (E1 2 rfl)<|De<|yP<|zD<|DO rfl<|Dc (by unfold Gu;rw[if_neg h1,if_neg (by omega),if_neg (by simp[h3]),if_pos (qz.2 h4)])
 refine yE<|zR<|zW (.b rfl<|.nil) rfl fun g10=>CY (E1 2 rfl)<|De<|DO rfl<|Dc (by unfold Gu;rw[if_neg h1,if_neg (by omega),if_neg (by simp[h3]),if_neg (kt h4)])
theorem qI{ps:List H9}:Ct prog 105 [QB ps] (I6 (L1 ps)):=by
 refine Ct.of func105 rfl (by kernel_rfl) rfl fun c0=>Yd 0 rfl fun hlen=>DS<|zV (.w 0 (xa 0 rfl yL rfl)<|.b rfl<|.nil) rfl fun g1=>CZ 0 (E1 1 rfl) rfl<|Dd<|zV (.n (xe U2 rfl)<|.r 0 (xf 0 rU rfl zJ rfl)<|.n (Ef Xy (.t rfl))<|.n (xd rfl)<|.nil) rfl fun g2=>CZ 0 (E2 1 10 rfl) rfl<|zC<|zh rfl (fun h1=>?_) (fun h1=>?_)<;>try simp only[CT,Z]at h1
 ·refine zV (.b rfl<|.nil) rfl fun g3=>CY (E1 2 rfl)<|De<|zD<|DO rfl<|Dc (z6 (by omega))
 have h0: ¬ps.length=0:=by omega
 refine yE<|zW (.b rfl<|.nil) rfl fun g4=>CZ 0 (E2 1 3 rfl) rfl<|Dd<|zV (.n (xe U2 rfl)<|.r 0 (xf 0 rU rfl zJ rfl)<|.n (Ef Xy (.t rfl))<|.n (zA (.k rfl))<|.nil) rfl fun g5=>CY (E4 3 12 13 14 rfl)<|zC<|zT<|D4 (α:=Nat) (fun k=>k≤ps.length∧Kj ps k) (fun k=>ps.length-k) (fun k restR=>(14,I6 (k:Int))::(3,I6 (min (KN ps k) 13))::restR) (fun k restS=>restS) (ρc:=[(12,_),(13,_)]) (σc:=[]) 0 (by exact⟨A7 _,Zf⟩) (Es (fun _=>E4 14 3 12 13 rfl) fun _=>R0) (fun k hI=>?_)
 obtain⟨hk,hp⟩:=hI
 refine zV (.n (xw rfl)<|.nil) rfl fun g6=>CY (E5 3 12 13 14 15 rfl)<|Dd<|zh rfl (fun h2=>?_) (fun h2=>?_)<;>try simp only[CT,Z]at h2
 ·refine yE<|Dd<|zT<|DS<|zV (.n (DX (mk:=Od) EM Xy RM (.t rfl) (.t rfl) (by omega) (by omega))<|.n (DB ir (.t rfl) rfl rfl)<|.w 0 (xj 0 ov rfl)<|.w 0 (xm 0 rfl yL wG rfl)<|.nil) rfl fun g7=>CZ 0 (E5 3 5 12 13 14 rfl) rfl<|Dd<|zV (.r 0 (xc 0 ir rfl zJ rfl)<|.n (zP (iV) (A1 rfl))<|.z rfl) rfl fun g8=>CZ 0 (E6 3 5 6 12 13 14 rfl) rfl<|zW (.m rfl<|.n (xd rfl)<|.nil) rfl fun g9=>CZ 0 (E7 3 5 6 12 13 14 21 rfl) rfl<|zC<|zh rfl (fun h3=>?_) (fun h3=>?_)<;>try simp only[CT,Z]at h3
  ·refine zV (.m rfl<|.z rfl) rfl fun g10=>CY (E1 2 rfl)<|De<|zD<|yP<|zD<|zD<|yP<|zD<|DO rfl<|Dc (z7 h0 (by omega) hp (h3))
  have hpk:Gu (ps.getD k EM)=0:=h3
  have hax:1≤(ps.getD ((k:Nat):Int).toNat EM).a*H4 (ps.getD ((k:Nat):Int).toNat EM).k∧(ps.getD ((k:Nat):Int).toNat EM).a*H4 (ps.getD ((k:Nat):Int).toNat EM).k≤36:=QG hpk
  have htr:=Lf hp
  refine yE<|zC<|(zG [[],[],[1],[],[3],[3,4],[1,2,3,4,5],[0,1,2,3,4,5,6],[0,1,2,3,4,5,6,7],[0,1,2,3,4,5,6,7,8]] (.m rfl<|.n (xe QX rfl)<|.r 0 (xf 0 Ez rfl zJ rfl)<|.n (xe QW rfl)<|.r 0 (xf 0 Ez rfl zJ rfl)<|.n (zP (P5) (A1 rfl))<|.n (xu rfl (wo (by omega)))<|.n (xq rfl (wo (by omega)))<|.n (r8 (.t rfl) (.k rfl))<|.z rfl) (fun _=>Di) rfl fun g11=>CY (E4 3 12 13 14 rfl) ?_)
  refine zR<|zC<|(zG [] (.n (xo rfl (wo (by omega)))<|.m rfl<|.nil) ff rfl fun g12=>CY (E4 3 12 13 14 rfl) ?_)
  exact yW (k+1) (by exact⟨by omega,Ze hp hpk⟩) (by omega) (Es (fun _=>F1 14 rfl<|.sub (t:=3) rfl (yO (by exact congrArg (fun z=>I6 z) (sK hp hpk)))<|E2 12 13 rfl) fun _=>R0)
 obtain rfl:k=ps.length:=by omega
 have hn:=z8 h0 hp
 refine D6<|zE<|zE<|zS<|Dd<|zV (.m rfl<|.n (xd rfl)<|.nil) rfl fun g13=>CY (E1 34 rfl)<|zC<|zh rfl (fun h4=>?_) (fun h4=>?_)<;>try simp only[CT,Z]at h4
 ·refine zV (.b rfl<|.nil) rfl fun g14=>CY (E1 2 rfl)<|De<|zD<|DO rfl<|Dc (by rw[hn,if_pos (by omega)])
 refine yE<|zW (.b rfl<|.nil) rfl fun g15=>CY (E1 2 rfl)<|De<|DO rfl<|Dc (by rw[hn,if_neg (by omega)])
theorem qK{ps:List H9}:Ct prog 58 [QB ps] (zu (dJ ps)):=by
 refine Ct.of func58 rfl (by kernel_rfl) rfl fun c0=>Yd 0 rfl fun hlen=>DS<|zV (.w 0 (xa 0 rfl yL rfl)<|.b rfl<|.b rfl<|.nil) rfl fun g1=>CZ 0 (E1 1 rfl) rfl<|Dd<|zV (.r 0 (xc 0 Sj rfl zJ rfl)<|.n (zP (qI) (A1 rfl))<|.z rfl) rfl fun g2=>CZ 0 (E2 1 4 rfl) rfl<|zW (.m rfl<|.n (xd rfl)<|.nil) rfl fun g3=>CZ 0 (E3 1 4 11 rfl) rfl<|zC<|zh rfl (fun h1=>?_) (fun h1=>?_)<;>try simp only[CT,Z]at h1
 ·refine zV (.m rfl<|.b rfl<|.z rfl) rfl fun g4=>CY (E2 2 3 rfl)<|De<|zD<|Lt rfl<|tH (by unfold dJ;rw[if_neg h1])
 obtain⟨h0,hgd,htl⟩:=WA h1
 have htl0:=(Lf hgd).1
 refine yE<|zW (.b rfl<|.nil) rfl fun g5=>CZ 0 (E2 1 5 rfl) rfl<|Dd<|zV (.n (xe U2 rfl)<|.r 0 (xf 0 rU rfl zJ rfl)<|.n (Ef Xy (.t rfl))<|.n (zA (.k rfl))<|.nil) rfl fun g6=>CY (E4 5 14 15 16 rfl)<|zC<|zT<|D4 (α:=Nat) (fun k=>k≤ps.length) (fun k=>ps.length-k) (fun k restR=>(16,I6 (k:Int))::(5,I6 (KN ps k))::restR) (fun k restS=>restS) (ρc:=[(14,_),(15,_)]) (σc:=[]) 0 (by exact A7 _) (Es (fun _=>E4 16 5 14 15 rfl) fun _=>R0) (fun k hI=>?_)
 refine zV (.n (xw rfl)<|.nil) rfl fun g7=>CY (E5 5 14 15 16 17 rfl)<|Dd<|zh rfl (fun h2=>?_) (fun h2=>?_)<;>try simp only[CT,Z]at h2
 ·have htr:=Lf (ps:=ps) (k:=k) fun q hq=>hgd q (by omega)
  have hax:1≤(ps.getD ((k:Nat):Int).toNat EM).a*H4 (ps.getD ((k:Nat):Int).toNat EM).k∧(ps.getD ((k:Nat):Int).toNat EM).a*H4 (ps.getD ((k:Nat):Int).toNat EM).k≤36:=QG (hgd _ (by omega))
  refine yE<|Dd<|zT<|DS<|zV (.n (DX (mk:=Od) EM Xy RM (.t rfl) (.t rfl) (by omega) (by omega))<|.n (DB ir (.t rfl) rfl rfl)<|.w 0 (xj 0 ov rfl)<|.w 0 (xm 0 rfl yL wG rfl)<|.nil) rfl fun g8=>CZ 0 (E5 5 7 14 15 16 rfl) rfl<|zC<|(zG [[],[],[1],[],[3],[3,4],[1,2,3,4,5],[0,1,2,3,4,5,6],[0,1,2,3,4,5,6,7]] (.m rfl<|.n (xe QX rfl)<|.r 0 (xf 0 Ez rfl zJ rfl)<|.n (xe QW rfl)<|.r 0 (xf 0 Ez rfl zJ rfl)<|.n (zP (P5) (A1 rfl))<|.n (xu rfl (wo (by omega)))<|.n (xq rfl (wo (by omega)))<|.z rfl) (fun _=>Di) rfl fun g9=>CY (E4 5 14 15 16 rfl) ?_)
  refine zR<|zC<|(zG [] (.n (xo rfl (wo (by omega)))<|.m rfl<|.nil) ff rfl fun g10=>CY (E4 5 14 15 16 rfl) ?_)
  exact yW (k+1) (by omega) (by omega) (Es (fun _=>E4 16 5 14 15 rfl) fun _=>R0)
 obtain rfl:k=ps.length:=by omega
 refine D6<|zE<|zE<|zS<|zW (.m rfl<|.a rfl<|.b rfl<|.nil) rfl fun g11=>CY (E2 2 3 rfl)<|De<|Lt rfl<|tH (aA h1).symm
theorem V8:V9 prog 108:=⟨_,func108,rfl,by kernel_rfl⟩
theorem oo{i j:Int}:Ct prog 108 [I6 i,I6 j] (Dm 0):=by
 refine Ct.of func108 rfl (by kernel_rfl) rfl fun c0=>zV (.n (zB (Lk.fk rfl (by decide+kernel)))<|.nil) rfl fun g1=>CY (E0)<|zW (.n (zB (Lk.fk rfl (by decide+kernel)))<|.nil) rfl fun g2=>CY (E1 4 rfl)<|De<|DO rfl<|zL
theorem oq{r c:Int}(hs:KK r c):OH prog 60 [I6 r,I6 c] (xU) (fun u=>EP [DL [I6 r,I6 c,CW u],I6 0]) (fun u=>DC u Dm (List.replicate (r*c).toNat 0) 53):=by
 refine OH.of func60 rfl (by kernel_rfl) rfl fun c0=>DS<|zV (.w 0 (xj 0 EU rfl)<|.b rfl<|.nil) rfl fun g1=>CZ 0 (E3 0 1 4 rfl) rfl<|Dd<|zV (.m rfl<|.n (zP (Qm) (A1 rfl))<|.n (EI (.t rfl))<|.m rfl<|.n (gu rfl (fun hC=>(xB rfl)))<|.n (gu rfl (fun hC=>(zP (Qm) ⟨(.w rfl hC),trivial⟩)))<|.n (gu rfl (fun hC=>(EI (.w rfl hC))))<|.n (Fk (.t rfl) (fun h2=>(.w rfl h2)))<|.nil) rfl fun g2=>CZ 0 (E4 0 1 4 13 rfl) rfl<|zC<|zh rfl (fun h1=>?_) (fun h1=>?_)<;>try simp only[CT,Z]at h1
 ·exact absurd h1 (by rw[a08 hs];decide)
 refine yE<|zC<|DS<|zV (.mm rfl<|.w 1 (HO 1 (VQ hs) ⟨(.t rfl),(.t rfl),(Lk.fn (C:=Pl r c) (g:=fun i j=>Dm 0) (fun i j hC=>oo) V8),trivial⟩ rfl)<|.w 0 (LQ 17 rfl rfl (fun f=>yM 0 (.t rfl) (.t rfl) yL FB rfl rfl rfl) (fun f g h=>by rw[h 17 (show 17∈ [17]from by decide)]) rfl)<|.b rfl<|.nil) rfl fun g3=>nx (E2 4 5 rfl) (R2 0 1 rfl)<|De<|D5 (To.res 1 (r':=DC (ZY 2 (g3 17)) Dm (List.replicate (r*c).toNat 0) 53) rfl (yQ (by rw[Mf,S0 hs])) rfl)<|NA (u:=(ZY 2 (g3 17))) 1 rfl rfl (.cons (.ag 0 (.t rfl) Dw rfl rfl rfl)<|.cons (.tmp (.t rfl))<|.nil) (fun v1 v2 c h=>OL rfl v1 c h)<|zL
theorem VP:V9 prog 31:=⟨_,func31,rfl,by kernel_rfl⟩
theorem pI{p:H9}{d:Nat}:Ct prog 31 [DL (Od p),Dm d] (I2 (I2 Dm) (H7 p d)):=by
 refine Ct.of func31 rfl (by kernel_rfl) rfl fun c0=>DS<|zV (.w 0 (xa 0 rfl yL rfl)<|.b rfl<|.nil) rfl fun g1=>CZ 0 (E2 1 2 rfl) rfl<|Dd<|zV (.n (xe QW rfl)<|.r 0 (xf 0 Ez rfl zJ rfl)<|.nil) rfl fun g2=>CZ 0 (E3 1 2 6 rfl) rfl<|zC<|zT<|zV (.n (xd rfl)<|.z rfl) rfl fun g3=>CZ 0 (E4 1 2 6 7 rfl) rfl<|zC<|zh rfl (fun h1=>?_) (fun h1=>?_)<;>try simp only[CT,Z]at h1
 ·refine zV (.m rfl<|.n (xC Dl EL rfl (.cons rfl (Lk.fk rfl (by decide+kernel)) Dj rfl (yU rfl (A8 rfl)) (.g Dj rfl .nil)))<|.n (xC Dl EL rfl (.cons rfl (Lk.fk rfl (by decide+kernel)) Dj rfl (yU rfl (A8 rfl)) (.cons rfl (Lk.fk rfl (by decide+kernel)) Dj rfl (yU rfl (A8 rfl)) .nil)))<|.n (xC Lb OE rfl (.g Fe rfl (.g Fe rfl .nil)))<|.z rfl) rfl fun g4=>CY (E1 4 rfl)<|De<|yP<|zD<|DO rfl<|D3 (by unfold H7;rw[if_pos h1];rfl)
 refine zV (.n (xd rfl)<|.z rfl) rfl fun g5=>CZ 0 (E4 1 2 6 13 rfl) rfl<|zC<|zh rfl (fun h2=>?_) (fun h2=>?_)<;>try simp only[CT,Z]at h2
 ·refine zV (.mm rfl<|.m rfl<|.n (xG (by simp) rfl)<|.n (FD (by simp) (.t rfl) (Lk.fk rfl (by decide+kernel)) rfl)<|.n (xC Dl EL rfl (.cons rfl (Lk.fk rfl (by decide+kernel)) Dj rfl (yU rfl (A8 rfl)) (.g Dj rfl (.g Dj rfl .nil))))<|.m rfl<|.n (xC Dl EL rfl (.cons rfl (Lk.fk rfl (by decide+kernel)) Dj rfl (yU rfl (A8 rfl)) (.cons rfl (Lk.fk rfl (by decide+kernel)) Dj rfl (yU rfl (A8 rfl)) (.g Dj rfl .nil))))<|.n (xC Dl EL rfl (.cons rfl (Lk.fk rfl (by decide+kernel)) Dj rfl (yU rfl (A8 rfl)) (.cons rfl (Lk.fk rfl (by decide+kernel)) Dj rfl (yU rfl (A8 rfl)) (.cons rfl (Lk.fk rfl (by decide+kernel)) Dj rfl (yU rfl (A8 rfl)) .nil))))<|.n (xC Lb OE rfl (.g Fe rfl (.g Fe rfl (.g Fe rfl .nil))))<|.z rfl) rfl fun g6=>CY (E1 4 rfl)<|De<|yP<|zD<|DO rfl<|D3 (by unfold H7;rw[if_neg h1,if_pos h2];rfl)
 refine zV (.n (xd rfl)<|.z rfl) rfl fun g7=>CZ 0 (E3 1 2 25 rfl) rfl<|zC<|zh rfl (fun h3=>?_) (fun h3=>?_)<;>try simp only[CT,Z]at h3
 ·refine zV (.n (xe U6 rfl)<|.r 0 (xf 0 Fp rfl zJ rfl)<|.m rfl<|.n (xG (by simp) rfl)<|.n (FD (by simp) (Lk.fk rfl (by decide+kernel)) (.t rfl) rfl)<|.n (FD (by simp) (Lk.fk rfl (by decide+kernel)) (.t rfl) rfl)<|.n (xC Dl EL rfl (.g Dj rfl .nil))<|.n (xC Lb OE rfl (.g Fe rfl .nil))<|.z rfl) rfl fun g8=>CY (E1 4 rfl)<|De<|yP<|zD<|DO rfl<|D3 (by unfold H7;rw[if_neg h1,if_neg h2,if_pos h3];rfl)
 refine yE<|zR<|zW (.n (xC Dl EL rfl (.cons rfl (Lk.fk rfl (by decide+kernel)) Dj rfl (yU rfl (A8 rfl)) .nil))<|.n (xC Lb OE rfl (.g Fe rfl .nil))<|.z rfl) rfl fun g9=>CY (E1 4 rfl)<|De<|DO rfl<|D3 (by unfold H7;rw[if_neg h1,if_neg h2,if_neg h3];rfl)
theorem X8:V9 prog 61:=⟨_,func61,rfl,by kernel_rfl⟩
theorem rz{p:H9}{d:Nat}:Ct prog 61 [DL (Od p),Dm d] (I2 (I2 Dm) (Ea p d)):=by
 refine Ct.of func61 rfl (by kernel_rfl) rfl fun c0=>DS<|zV (.w 0 (xa 0 rfl yL rfl)<|.b rfl<|.nil) rfl fun g1=>CZ 0 (E2 1 2 rfl) rfl<|zW (.n (xe U5 rfl)<|.r 0 (xf 0 Fp rfl zJ rfl)<|.m rfl<|.n (xG (by simp) rfl)<|.z rfl) rfl fun g2=>CZ 0 (E3 1 2 5 rfl) rfl<|zW (.mm rfl<|.n (xG (by simp) rfl)<|.n (FD (by simp) (.t rfl) (Lk.fk rfl (by decide+kernel)) rfl)<|.z rfl) rfl fun g3=>CZ 0 (E4 1 2 5 6 rfl) rfl<|Dd<|zV (.n (xe QW rfl)<|.r 0 (xf 0 Ez rfl zJ rfl)<|.nil) rfl fun g4=>CY (E4 1 5 6 21 rfl)<|zC<|zT<|zF<|zV (.n (xd rfl)<|.z rfl) rfl fun g5=>CY (E5 1 5 6 21 22 rfl)<|zC<|zh rfl (fun h1=>?_) (fun h1=>?_)<;>try simp only[CT,Z]at h1
 ·refine yE<|zC<|zh rfl (fun h2=>?_) (fun h2=>?_)<;>try simp only[CT,Z]at h2
  ·refine zV (.m rfl<|.n (xC Dl EL rfl (.g Dj rfl .nil))<|.n (xC Lb OE rfl (.g Fe rfl .nil))<|.z rfl) rfl fun g6=>CY (E1 4 rfl)<|De<|yP<|zD<|DO rfl ?_
   first|exact D3 (by unfold Ea Lu;rw[if_pos (by omega)];rfl)|exact D3 (by unfold Ea Lu;rw[if_neg (by omega),if_pos (by omega)];rfl)|exact D3 (by unfold Ea Lu;rw[if_neg (by omega),if_neg (by omega),if_pos (by omega)];rfl)|exact D3 (by unfold Ea Lu;rw[if_neg (by omega),if_neg (by omega),if_neg (by omega)];rfl)
  refine zV (.n (xd rfl)<|.z rfl) rfl fun g7=>CY (E5 1 5 6 21 28 rfl)<|zC<|zh rfl (fun h3=>?_) (fun h3=>?_)<;>try simp only[CT,Z]at h3
  ·refine zV (.mm rfl<|.n (xG (by simp) rfl)<|.m rfl<|.n (xG (by simp) rfl)<|.n (FD (by simp) (.t rfl) (Lk.fk rfl (by decide+kernel)) rfl)<|.z rfl) rfl fun g8=>CY (E3 5 6 7 rfl)<|zW (.mm rfl<|.n (xC Dl EL rfl (.g Dj rfl (.g Dj rfl .nil)))<|.mm rfl<|.n (xC Dl EL rfl (.g Dj rfl (.g Dj rfl .nil)))<|.n (xC Lb OE rfl (.g Fe rfl (.g Fe rfl .nil)))<|.z rfl) rfl fun g9=>CY (E1 4 rfl)<|De<|yP<|zD<|DO rfl ?_
   first|exact D3 (by unfold Ea Lu;rw[if_pos (by omega)];rfl)|exact D3 (by unfold Ea Lu;rw[if_neg (by omega),if_pos (by omega)];rfl)|exact D3 (by unfold Ea Lu;rw[if_neg (by omega),if_neg (by omega),if_pos (by omega)];rfl)|exact D3 (by unfold Ea Lu;rw[if_neg (by omega),if_neg (by omega),if_neg (by omega)];rfl)
  refine zV (.n (xd rfl)<|.z rfl) rfl fun g10=>CY (E4 1 5 6 43 rfl)<|zC<|zh rfl (fun h4=>?_) (fun h4=>?_)<;>try simp only[CT,Z]at h4
  ·refine zV (.mm rfl<|.n (xG (by simp) rfl)<|.m rfl<|.n (xG (by simp) rfl)<|.n (FD (by simp) (.t rfl) (Lk.fk rfl (by decide+kernel)) rfl)<|.mm rfl<|.n (xG (by simp) rfl)<|.m rfl<|.n (xG (by simp) rfl)<|.n (FD (by simp) (.t rfl) (Lk.fk rfl (by decide+kernel)) rfl)<|.a rfl<|.z rfl) rfl fun g11=>CY (E5 1 5 6 8 9 rfl)<|zW (.mm rfl<|.n (xG (by simp) rfl)<|.m rfl<|.n (xG (by simp) rfl)<|.m rfl<|.n (xG (by simp) rfl)<|.n (FD (by simp) (.t rfl) (Lk.fk rfl (by decide+kernel)) rfl)<|.mm rfl<|.n (xG (by simp) rfl)<|.m rfl<|.n (xG (by simp) rfl)<|.m rfl<|.n (xG (by simp) rfl)<|.m rfl<|.n (xG (by simp) rfl)<|.n (FD (by simp) (.t rfl) (Lk.fk rfl (by decide+kernel)) rfl)<|.a rfl<|.z rfl) rfl fun g12=>CY (E6 5 6 8 9 10 11 rfl)<|zW (.mm rfl<|.m rfl<|.n (xC Dl EL rfl (.g Dj rfl (.g Dj rfl (.g Dj rfl .nil))))<|.mm rfl<|.m rfl<|.n (xC Dl EL rfl (.g Dj rfl (.g Dj rfl (.g Dj rfl .nil))))<|.mm rfl<|.m rfl<|.n (xC Dl EL rfl (.g Dj rfl (.g Dj rfl (.g Dj rfl .nil))))<|.n (xC Lb OE rfl (.g Fe rfl (.g Fe rfl (.g Fe rfl .nil))))<|.z rfl) rfl fun g13=>CY (E1 4 rfl)<|De<|yP<|zD<|DO rfl ?_
   first|exact D3 (by unfold Ea Lu;rw[if_pos (by omega)];rfl)|exact D3 (by unfold Ea Lu;rw[if_neg (by omega),if_pos (by omega)];rfl)|exact D3 (by unfold Ea Lu;rw[if_neg (by omega),if_neg (by omega),if_pos (by omega)];rfl)|exact D3 (by unfold Ea Lu;rw[if_neg (by omega),if_neg (by omega),if_neg (by omega)];rfl)
  refine yE<|zR<|zW (.n (xC Dl EL rfl (.cons rfl (Lk.fk rfl (by decide+kernel)) Dj rfl (yU rfl (A8 rfl)) .nil))<|.n (xC Lb OE rfl (.g Fe rfl .nil))<|.z rfl) rfl fun g14=>CY (E1 4 rfl)<|De<|DO rfl ?_
  first|exact D3 (by unfold Ea Lu;rw[if_pos (by omega)];rfl)|exact D3 (by unfold Ea Lu;rw[if_neg (by omega),if_pos (by omega)];rfl)|exact D3 (by unfold Ea Lu;rw[if_neg (by omega),if_neg (by omega),if_pos (by omega)];rfl)|exact D3 (by unfold Ea Lu;rw[if_neg (by omega),if_neg (by omega),if_neg (by omega)];rfl)
 refine(zG [] (.n (xd rfl)<|.z rfl) ff rfl fun g15=>CY (E5 1 5 6 21 22 rfl) ?_)
 refine zC<|zh rfl (fun h5=>?_) (fun h5=>?_)<;>try simp only[CT,Z]at h5
 ·refine zV (.m rfl<|.n (xC Dl EL rfl (.g Dj rfl .nil))<|.n (xC Lb OE rfl (.g Fe rfl .nil))<|.z rfl) rfl fun g16=>CY (E1 4 rfl)<|De<|yP<|zD<|DO rfl ?_
  first|exact D3 (by unfold Ea Lu;rw[if_pos (by omega)];rfl)|exact D3 (by unfold Ea Lu;rw[if_neg (by omega),if_pos (by omega)];rfl)|exact D3 (by unfold Ea Lu;rw[if_neg (by omega),if_neg (by omega),if_pos (by omega)];rfl)|exact D3 (by unfold Ea Lu;rw[if_neg (by omega),if_neg (by omega),if_neg (by omega)];rfl)
 refine zV (.n (xd rfl)<|.z rfl) rfl fun g17=>CY (E5 1 5 6 21 28 rfl)<|zC<|zh rfl (fun h6=>?_) (fun h6=>?_)<;>try simp only[CT,Z]at h6
 ·refine zV (.mm rfl<|.n (xG (by simp) rfl)<|.m rfl<|.n (xG (by simp) rfl)<|.n (FD (by simp) (.t rfl) (Lk.fk rfl (by decide+kernel)) rfl)<|.z rfl) rfl fun g18=>CY (E3 5 6 7 rfl)<|zW (.mm rfl<|.n (xC Dl EL rfl (.g Dj rfl (.g Dj rfl .nil)))<|.mm rfl<|.n (xC Dl EL rfl (.g Dj rfl (.g Dj rfl .nil)))<|.n (xC Lb OE rfl (.g Fe rfl (.g Fe rfl .nil)))<|.z rfl) rfl fun g19=>CY (E1 4 rfl)<|De<|yP<|zD<|DO rfl ?_
  first|exact D3 (by unfold Ea Lu;rw[if_pos (by omega)];rfl)|exact D3 (by unfold Ea Lu;rw[if_neg (by omega),if_pos (by omega)];rfl)|exact D3 (by unfold Ea Lu;rw[if_neg (by omega),if_neg (by omega),if_pos (by omega)];rfl)|exact D3 (by unfold Ea Lu;rw[if_neg (by omega),if_neg (by omega),if_neg (by omega)];rfl)
 refine zV (.n (xd rfl)<|.z rfl) rfl fun g20=>CY (E4 1 5 6 43 rfl)<|zC<|zh rfl (fun h7=>?_) (fun h7=>?_)<;>try simp only[CT,Z]at h7
 ·refine zV (.mm rfl<|.n (xG (by simp) rfl)<|.m rfl<|.n (xG (by simp) rfl)<|.n (FD (by simp) (.t rfl) (Lk.fk rfl (by decide+kernel)) rfl)<|.mm rfl<|.n (xG (by simp) rfl)<|.m rfl<|.n (xG (by simp) rfl)<|.n (FD (by simp) (.t rfl) (Lk.fk rfl (by decide+kernel)) rfl)<|.a rfl<|.z rfl) rfl fun g21=>CY (E5 1 5 6 8 9 rfl)<|zW (.mm rfl<|.n (xG (by simp) rfl)<|.m rfl<|.n (xG (by simp) rfl)<|.m rfl<|.n (xG (by simp) rfl)<|.n (FD (by simp) (.t rfl) (Lk.fk rfl (by decide+kernel)) rfl)<|.mm rfl<|.n (xG (by simp) rfl)<|.m rfl<|.n (xG (by simp) rfl)<|.m rfl<|.n (xG (by simp) rfl)<|.m rfl<|.n (xG (by simp) rfl)<|.n (FD (by simp) (.t rfl) (Lk.fk rfl (by decide+kernel)) rfl)<|.a rfl<|.z rfl) rfl fun g22=>CY (E6 5 6 8 9 10 11 rfl)<|zW (.mm rfl<|.m rfl<|.n (xC Dl EL rfl (.g Dj rfl (.g Dj rfl (.g Dj rfl .nil))))<|.mm rfl<|.m rfl<|.n (xC Dl EL rfl (.g Dj rfl (.g Dj rfl (.g Dj rfl .nil))))<|.mm rfl<|.m rfl<|.n (xC Dl EL rfl (.g Dj rfl (.g Dj rfl (.g Dj rfl .nil))))<|.n (xC Lb OE rfl (.g Fe rfl (.g Fe rfl (.g Fe rfl .nil))))<|.z rfl) rfl fun g23=>CY (E1 4 rfl)<|De<|yP<|zD<|DO rfl ?_
  first|exact D3 (by unfold Ea Lu;rw[if_pos (by omega)];rfl)|exact D3 (by unfold Ea Lu;rw[if_neg (by omega),if_pos (by omega)];rfl)|exact D3 (by unfold Ea Lu;rw[if_neg (by omega),if_neg (by omega),if_pos (by omega)];rfl)|exact D3 (by unfold Ea Lu;rw[if_neg (by omega),if_neg (by omega),if_neg (by omega)];rfl)
 refine yE<|zR<|zW (.n (xC Dl EL rfl (.cons rfl (Lk.fk rfl (by decide+kernel)) Dj rfl (yU rfl (A8 rfl)) .nil))<|.n (xC Lb OE rfl (.g Fe rfl .nil))<|.z rfl) rfl fun g24=>CY (E1 4 rfl)<|De<|DO rfl ?_
 first|exact D3 (by unfold Ea Lu;rw[if_pos (by omega)];rfl)|exact D3 (by unfold Ea Lu;rw[if_neg (by omega),if_pos (by omega)];rfl)|exact D3 (by unfold Ea Lu;rw[if_neg (by omega),if_neg (by omega),if_pos (by omega)];rfl)|exact D3 (by unfold Ea Lu;rw[if_neg (by omega),if_neg (by omega),if_neg (by omega)];rfl)
theorem bp{ps:List H9}{t:Int}{g:BF}(hb:BOk g):Ct prog 30 [QB ps,I6 t,fnq prog (α:=H9×Nat) (fun _=>True) (fun i=>[DL (Od i.1),Dm i.2]) (fun i=>I2 (I2 Dm) (g i.1 i.2))] (Xd (IY g ps t)):=by
 refine Ct.of func30 rfl (by kernel_rfl) rfl fun c0=>Yd 0 rfl fun hlen=>yN (To.emps 2)<|zV (.w 0 (xa 0 rfl yL rfl)<|.w 1 (xj 1 EU rfl)<|.b rfl<|.nil) rfl fun g1=>nx (E4 1 2 3 6 rfl) (R2 0 1 rfl)<|zW (.r 0 (xc 0 Sj rfl zJ rfl)<|.n (zP (qK) (A1 rfl))<|.m rfl<|.n (xk rfl)<|.n (xk rfl)<|.a rfl<|.z rfl) rfl fun g2=>nx (E6 1 2 3 6 8 9 rfl) (R2 0 1 rfl)<|Dd<|zV (.m rfl<|.n (xd rfl)<|.nil) rfl fun g3=>nx (E7 1 2 3 6 8 9 26 rfl) (R2 0 1 rfl)<|zC<|zh rfl (fun h1=>?_) (fun h1=>?_)<;>try simp only[CT,Z]at h1
 ·rw[Yy]at h1
  refine zV (.n (D1 EU rfl Hp .nil)<|.m rfl<|.w 1 (xn 1 rfl yL FB rfl)<|.z rfl) rfl fun g4=>CZ 1 (E2 6 7 rfl) rfl<|De<|zD<|zQ (.cons (.ag 0 (.t rfl) Dw rfl rfl rfl)<|.cons (.tmp (.t rfl))<|.nil) (zM (Dk (.cons (Dx (.cons zL<|.cons zL<|.cons (Dr (mk:=Dm))<|.nil))<|.cons zL<|.nil)) ?_)
  rw[Yy]
  exact MJ (uF h1)
 rw[Yy]at h1
 obtain⟨h0,hgd,htl⟩:=WA h1
 have htl0:=(Lf hgd).1
 have hda:(dJ ps).a=KN ps ps.length:=by rw[aA h1]
 obtain⟨n,hn⟩: ∃ n,n=KN ps ps.length:=⟨_,rfl⟩
 rw[hda,←hn]
 have hs:KK n n:=⟨by omega,by omega,by omega,by omega⟩
 have hsq:=wC (n:=n) (by omega) (by omega)
 refine yE<|Dd<|zV (.m rfl<|.n (xd rfl)<|.m rfl<|.n (gu rfl (fun hC=>(xB rfl)))<|.n (gu rfl (fun hC=>(oc rfl (.w rfl hC) (.k rfl) rfl)))<|.n (Fk (.t rfl) (fun h2=>(.w rfl h2)))<|.nil) rfl fun g5=>nx (E6 1 2 3 6 8 34 rfl) (R2 0 1 rfl)<|zC<|zh rfl (fun h2=>?_) (fun h2=>?_)<;>try simp only[CT,Z]at h2
 ·refine zV (.n (D1 EU rfl Hp .nil)<|.w 1 (xn 1 rfl yL FB rfl)<|.b rfl<|.nil) rfl fun g6=>CZ 1 (E2 6 7 rfl) rfl<|De<|zD<|zQ (.cons (.ag 0 (.t rfl) Dw rfl rfl rfl)<|.cons (.tmp (.t rfl))<|.nil) (zM (Dk (.cons (Dx (.cons zL<|.cons zL<|.cons (Dr (mk:=Dm))<|.nil))<|.cons zL<|.nil)) ?_)
  exact MJ (uG h1 h2)
 refine yE<|zW (.m rfl<|.n (zP (rW) (A1 rfl))<|.m rfl<|.n (xk rfl)<|.n (xk rfl)<|.a rfl<|.z rfl) rfl fun g7=>nx (E5 2 3 6 8 10 rfl) (R2 0 1 rfl)<|zC<|yN (To.emps 2)<|zV (.mm rfl<|.w 2 (HO 2 (oq hs) (A2 rfl) rfl)<|.n (Ng rfl rfl)<|.n (HP 41 45 rfl rfl rfl (fun f=>yJ (.t rfl) rfl) (fun f g h=>by first|rfl|rw[h 44 (show 44∈ [44]from by decide)]) rfl)<|.n (HP 41 46 rfl rfl rfl (fun f=>yJ (.t rfl) rfl) (fun f g h=>by first|rfl|rw[h 44 (show 44∈ [44]from by decide)]) rfl)<|.w 3 (xj 3 EU rfl)<|.w 3 (Ey 3 rfl rfl rfl (fun f=>yL) (fun f g h=>by rw[h 44 (show 44∈ [44]from by decide)]) (fun _=>FB) rfl (fun _=>rfl) rfl)<|.n (yX rfl rfl)<|.nil) rfl fun g8=>nx (E6 2 3 6 8 10 12 rfl) (R4 0 1 2 3 rfl)<|zW (.b rfl<|.nil) rfl fun g9=>nx (E7 2 3 6 8 10 12 14 rfl) (R4 0 1 2 3 rfl)<|Dd<|zV (.n (xe U2 rfl)<|.r 0 (xf 0 rU rfl zJ rfl)<|.n (Ef Xy (.t rfl))<|.n (zA (.k rfl))<|.nil) rfl fun g10=>nx (E9 2 6 8 10 12 14 48 49 50 rfl) (R3 1 2 3 rfl)<|zC<|zT<|D4 (α:=Nat) (fun k=>k≤ps.length) (fun k=>((ps.length:Int)).toNat-k) (fun k restR=>(50,I6 (k:Int))::(14,I6 (KN ps k))::restR) (fun k restS=>DC (xU (g8 44)) Dm (Rk g (Hi t).a ps n k) 53::restS) (ρc:=[(2,_),(6,_),(8,_),(10,_),(12,_),(48,_),(49,_)]) (σc:=[_,_]) 0 (by exact A7 _) (Es (fun _=>E9 50 14 2 6 8 10 12 48 49 rfl) fun _=>R3 1 0 2 rfl) (fun k hI=>?_)
 refine zV (.n (xw rfl)<|.nil) rfl fun g11=>nx (I4 2 6 8 10 12 14 48 49 50 51 rfl) (R3 0 1 2 rfl)<|Dd<|zh rfl (fun h3=>?_) (fun h3=>?_)<;>try simp only[CT,Z]at h3
 ·have htr:=Lf (ps:=ps) (k:=k) fun q hq=>hgd q (by omega)
  have hpk:Gu (ps.getD ((k:Nat):Int).toNat EM)=0:=hgd k (by omega)
  obtain⟨hp1,hp2,hp3,_⟩:=Nk hpk
  have hor:=(O8 (ps.getD ((k:Nat):Int).toNat EM).k).2
  obtain⟨hL,hR⟩:=hb (ps.getD ((k:Nat):Int).toNat EM) (Hi t).a hp1
  refine yE<|Dd<|zT<|DS<|zV (.n (DX (mk:=Od) EM Xy RM (.t rfl) (.t rfl) (by omega) (by omega))<|.n (DB ir (.t rfl) rfl rfl)<|.w 3 (xj 3 ov rfl)<|.w 3 (xm 3 rfl yL wG rfl)<|.nil) rfl fun g12=>nx (I4 2 6 8 10 12 14 16 48 49 50 rfl) (R4 0 1 2 3 rfl)<|zW (.m rfl<|.r 3 (xc 3 ir rfl zJ rfl)<|.m rfl<|.n (WQ (P:=prog) ((ps.getD ((k:Nat):Int).toNat EM),(Hi t).a) (.t rfl) (A2 rfl) trivial)<|.z rfl) rfl fun g13=>nx (Ec 2 6 8 10 12 14 16 17 48 49 rfl<|E1 50 rfl) (R4 0 1 2 3 rfl)<|zW (.n (xe QX rfl)<|.r 3 (xf 3 Ez rfl zJ rfl)<|.n (zA (.k rfl))<|.nil) rfl fun g14=>nx (Ec 2 6 8 10 12 14 17 48 49 50 rfl<|E2 59 60 rfl) (R3 0 1 2 rfl)<|zC<|zT<|D4 (α:=Nat) (fun a=>(a:Int)≤(ps.getD ((k:Nat):Int).toNat EM).a) (fun a=>((ps.getD ((k:Nat):Int).toNat EM).a).toNat-a) (fun a restR=>(60,I6 (a:Int))::(14,I6 (KN ps k+(a:Int)*((g (ps.getD ((k:Nat):Int).toNat EM) (Hi t).a).length:Int)))::restR) (fun a restS=>DC (xU (g8 44)) Dm (Wb (g (ps.getD ((k:Nat):Int).toNat EM) (Hi t).a) n (KN ps k) (Rk g (Hi t).a ps n k) a) 53::restS) (ρc:=[(2,_),(6,_),(8,_),(10,_),(12,_),(17,_),(48,_),(49,_),(50,_),(59,_)]) (σc:=[_,_]) 0 (by omega) (Es (fun _=>F1 60 rfl<|.sub (t:=14) rfl (yO (by exact congrArg (fun z=>I6 z) (by simp)))<|I4 2 6 8 10 12 17 48 49 50 59 rfl) fun _=>R3 0 1 2 rfl) (fun a hI=>?_)
  obtain⟨fr,hfr⟩: ∃ fr,fr=KN ps k+(a:Int)*((g (ps.getD ((k:Nat):Int).toNat EM) (Hi t).a).length:Int):=⟨_,rfl⟩
  rw[←hfr]
  refine zV (.n (xw rfl)<|.nil) rfl fun g15=>nx (Ec 2 6 8 10 12 14 17 48 49 50 rfl<|E3 59 60 61 rfl) (R3 0 1 2 rfl)<|Dd<|zh rfl (fun h4=>?_) (fun h4=>?_)<;>try simp only[CT,Z]at h4
  ·have hin:0≤KN ps k∧0≤(a:Int)*H4 (ps.getD ((k:Nat):Int).toNat EM).k∧KN ps k+(a:Int)*H4 (ps.getD ((k:Nat):Int).toNat EM).k+H4 (ps.getD ((k:Nat):Int).toNat EM).k≤KN ps ps.length∧1≤H4 (ps.getD ((k:Nat):Int).toNat EM).k:=y7 hgd htl (by omega) (show(a:Int)<(ps.getD ((k:Nat):Int).toNat EM).a by omega)
   have hf0:0≤fr:=by rw[hfr,hL];omega
   have hf1:fr+((g (ps.getD ((k:Nat):Int).toNat EM) (Hi t).a).length:Int)≤n:=by rw[hfr,hL];omega
   refine yE<|Dd<|zT<|zF<|zV (.m rfl<|.n (xv Lb rfl)<|.n (zA (.k rfl))<|.nil) rfl fun g16=>nx (Ec 2 6 8 10 12 14 17 48 49 50 rfl<|E4 59 60 63 64 rfl) (R3 0 1 2 rfl)<|zC<|zT<|D4 (α:=Nat) (fun i=>i≤(g (ps.getD ((k:Nat):Int).toNat EM) (Hi t).a).length) (fun i=>(((g (ps.getD ((k:Nat):Int).toNat EM) (Hi t).a).length:Int)).toNat-i) (fun i restR=>(64,I6 (i:Int))::restR) (fun i restS=>DC (xU (g8 44)) Dm (YP (g (ps.getD ((k:Nat):Int).toNat EM) (Hi t).a) n fr (Wb (g (ps.getD ((k:Nat):Int).toNat EM) (Hi t).a) n (KN ps k) (Rk g (Hi t).a ps n k) a) i) 53::restS) (ρc:=[(2,_),(6,_),(8,_),(10,_),(12,_),(14,_),(17,_),(48,_),(49,_),(50,_),(59,_),(60,_),(63,_)]) (σc:=[_,_]) 0 (by exact A7 _) (Es (fun _=>Ec 64 2 6 8 10 12 14 17 48 49 rfl<|E4 50 59 60 63 rfl) fun _=>R3 0 1 2 rfl) (fun i hI=>?_)
   refine zV (.n (xw rfl)<|.nil) rfl fun g17=>nx (Ec 2 6 8 10 12 14 17 48 49 50 rfl<|E5 59 60 63 64 65 rfl) (R3 0 1 2 rfl)<|Dd<|zh rfl (fun h5=>?_) (fun h5=>?_)<;>try simp only[CT,Z]at h5
   ·have hRi:((g (ps.getD ((k:Nat):Int).toNat EM) (Hi t).a).getD ((i:Nat):Int).toNat []).length=(g (ps.getD ((k:Nat):Int).toNat EM) (Hi t).a).length:=hR i (by omega)
    refine yE<|Dd<|zT<|zV (.m rfl<|.z rfl) rfl fun g18=>nx (Ec 2 6 8 10 12 14 17 18 48 49 rfl<|E5 50 59 60 63 64 rfl) (R3 0 1 2 rfl)<|zW (.mm rfl<|.n (xx [] Lb rfl (by omega) (by omega))<|.n (xy Eo rfl)<|.n (xv Dl rfl)<|.n (zA (.k rfl))<|.nil) rfl fun g19=>nx (Ec 2 6 8 10 12 14 17 18 48 49 rfl<|E7 50 59 60 63 64 71 72 rfl) (R3 0 1 2 rfl)<|zC<|zT<|D4 (α:=Nat) (fun j=>j≤((g (ps.getD ((k:Nat):Int).toNat EM) (Hi t).a).getD ((i:Nat):Int).toNat []).length) (fun j=>((((g (ps.getD ((k:Nat):Int).toNat EM) (Hi t).a).getD ((i:Nat):Int).toNat []).length:Int)).toNat-j) (fun j restR=>(72,I6 (j:Int))::restR) (fun j restS=>DC (xU (g8 44)) Dm (jT (g (ps.getD ((k:Nat):Int).toNat EM) (Hi t).a) n fr i (YP (g (ps.getD ((k:Nat):Int).toNat EM) (Hi t).a) n fr (Wb (g (ps.getD ((k:Nat):Int).toNat EM) (Hi t).a) n (KN ps k) (Rk g (Hi t).a ps n k) a) i) j) 53::restS) (ρc:=[(2,_),(6,_),(8,_),(10,_),(12,_),(14,_),(17,_),(18,_),(48,_),(49,_),(50,_),(59,_),(60,_),(63,_),(64,_),(71,_)]) (σc:=[_,_]) 0 (by exact A7 _) (Es (fun _=>Ec 72 2 6 8 10 12 14 17 18 48 rfl<|E7 49 50 59 60 63 64 71 rfl) fun _=>R3 0 1 2 rfl) (fun j hI=>?_)
    refine zV (.n (xw rfl)<|.nil) rfl fun g20=>nx (Ec 2 6 8 10 12 14 17 18 48 49 rfl<|E8 50 59 60 63 64 71 72 73 rfl) (R3 0 1 2 rfl)<|Dd<|zh rfl (fun h6=>?_) (fun h6=>?_)<;>try simp only[CT,Z]at h6
    ·have hq:=fv (n:=n) (x:=fr+(i:Int)) (y:=fr+(j:Int)) (by omega) (by omega) (by omega) (by omega)
     have hln:= @Rj (g (ps.getD ((k:Nat):Int).toNat EM) (Hi t).a) n fr i (YP (g (ps.getD ((k:Nat):Int).toNat EM) (Hi t).a) n fr (Wb (g (ps.getD ((k:Nat):Int).toNat EM) (Hi t).a) n (KN ps k) (Rk g (Hi t).a ps n k) a) i) j
     rw[Ri,Rh,Wc]at hln
     refine yE<|Dd<|zT<|zV (.m rfl<|.z rfl) rfl fun g21=>nx (Ec 2 6 8 10 12 14 17 18 19 48 rfl<|E8 49 50 59 60 63 64 71 72 rfl) (R3 0 1 2 rfl)<|zC<|(zG [[],[0],[],[],[2,3],[],[2,3,4,5],[],[2,3,4,5,6,7],[],[2,3,4,5,6,7,8,9],[],[],[11,12],[11,12,13],[],[11,12,13,14,15],[11,12,13,14,15,16],[0,1,2,3,4,5,6,7,8,9,10,11,12,13,14,15,16,17],[0,1,2,3,4,5,6,7,8,9,10,11,12,13,14,15,16,17,18]] (.n (xe Ek rfl)<|.r 2 (xf 2 Eo rfl zJ rfl)<|.mm rfl<|.n (xq rfl (wo (by omega)))<|.m rfl<|.n (xu rfl (wo (by omega)))<|.m rfl<|.n (xq rfl (wo (by omega)))<|.m rfl<|.n (xq rfl (wo (by omega)))<|.mm rfl<|.n (xx [] Lb rfl (by omega) (by omega))<|.n (xy Eo rfl)<|.m rfl<|.n (xx 0 Dl rfl (by omega) (by omega))<|.n (xy Fp rfl)<|.r 0 (xz 0 Dl rfl (by omega) (by omega))<|.w 0 (xA 0 rfl Dj Lr rfl (by omega))<|.nil) (fun _=>Di) rfl fun g22=>nx (Ec 2 6 8 10 12 14 17 18 48 49 rfl<|E7 50 59 60 63 64 71 72 rfl) (R3 0 1 2 rfl) ?_)
     refine zR<|zC<|(zG [] (.n (xo rfl (wo (by omega)))<|.m rfl<|.nil) ff rfl fun g23=>nx (Ec 2 6 8 10 12 14 17 18 48 49 rfl<|E7 50 59 60 63 64 71 72 rfl) (R3 0 1 2 rfl) ?_)
     exact yW (j+1) (by omega) (by omega) (Es (fun _=>Ec 72 2 6 8 10 12 14 17 18 48 rfl<|E7 49 50 59 60 63 64 71 rfl) fun _=>R3 0 1 2 rfl)
    refine D6<|zE<|zE<|zS<|zR<|zC<|(zG [] (.n (xo rfl (wo (by omega)))<|.m rfl<|.nil) ff rfl fun g24=>nx (Ec 2 6 8 10 12 14 17 48 49 50 rfl<|E4 59 60 63 64 rfl) (R3 0 1 2 rfl) ?_)
    exact yW (i+1) (by omega) (by omega) (To.pick (fun _=>Ec 64 2 6 8 10 12 14 17 48 49 rfl<|E4 50 59 60 63 rfl) (fun _=> .sub 0 rfl (yQ (by rw[show j=((g (ps.getD ((k:Nat):Int).toNat EM) (Hi t).a).getD ((i:Nat):Int).toNat []).length by omega];rfl))<|.k 1 rfl<|.k 2 rfl<|.nil) (ks:=[0,1,2]) rfl)
   refine D6<|zE<|zE<|zS<|zC<|(zG [] (.mm rfl<|.n (xv Lb rfl)<|.n (xq rfl (zO (show _≤fr+((g (ps.getD ((k:Nat):Int).toNat EM) (Hi t).a).length:Int) by omega) (show fr+((g (ps.getD ((k:Nat):Int).toNat EM) (Hi t).a).length:Int)≤_ by omega)))<|.z rfl) ff rfl fun g25=>nx (Ec 2 6 8 10 12 14 17 48 49 50 rfl<|E2 59 60 rfl) (R3 0 1 2 rfl) ?_)
   refine zR<|zC<|(zG [] (.n (xo rfl (wo (by omega)))<|.m rfl<|.nil) ff rfl fun g26=>nx (Ec 2 6 8 10 12 14 17 48 49 50 rfl<|E2 59 60 rfl) (R3 0 1 2 rfl) ?_)
   exact yW (a+1) (by omega) (by omega) (To.pick (fun _=>F1 60 rfl<|.sub (t:=14) rfl (yO (by exact congrArg (fun z=>I6 z) (by rw[hfr,oO])))<|I4 2 6 8 10 12 17 48 49 50 59 rfl) (fun _=> .sub 0 rfl (yQ (by rw[show i=(g (ps.getD ((k:Nat):Int).toNat EM) (Hi t).a).length by omega,hfr];rfl))<|.k 1 rfl<|.k 2 rfl<|.nil) (ks:=[0,1,2]) rfl)
  refine D6<|zE<|zE<|zS<|zR<|zC<|(zG [] (.n (xo rfl (wo (by omega)))<|.m rfl<|.nil) ff rfl fun g27=>nx (E9 2 6 8 10 12 14 48 49 50 rfl) (R3 0 1 2 rfl) ?_)
  exact yW (k+1) (by omega) (by omega) (To.pick (fun _=>F1 50 rfl<|.sub (t:=14) rfl (yO (by exact congrArg (fun z=>I6 z) (by rw[hfr,hL,show(a:Int)=(ps.getD ((k:Nat):Int).toNat EM).a by omega];rfl)))<|E7 2 6 8 10 12 48 49 rfl) (fun _=> .sub 0 rfl (yQ (by rw[show a=((ps.getD ((k:Nat):Int).toNat EM).a).toNat by omega];rfl))<|.k 1 rfl<|.k 2 rfl<|.nil) (ks:=[0,1,2]) rfl)
 refine D6<|zE<|zE<|zS<|Dd<|yN (To.freeze 0 (fun _ h=>h) rfl Dz rfl)<|zV (.n (xe Ek rfl)<|.r 2 (xf 2 Eo rfl zJ rfl)<|.n (zP (Jj) ⟨(Lk.sub (Ed 0 rfl) (.t rfl)),trivial⟩)<|.n (EI (.t rfl))<|.nil) rfl fun g28=>nx (E3 6 12 105 rfl) (R2 1 2 rfl)<|zC<|zh rfl (fun h7=>?_) (fun h7=>?_)<;>try simp only[CT,Z]at h7
 ·refine zV (.n (D1 EU rfl Hp .nil)<|.w 0 (xn 0 rfl yL FB rfl)<|.b rfl<|.nil) rfl fun g29=>CZ 0 (E2 6 7 rfl) rfl<|De<|zD<|zQ (.cons (.ag 0 (.t rfl) Dw rfl rfl rfl)<|.cons (.tmp (.t rfl))<|.nil) (zM (Dk (.cons (Dx (.cons zL<|.cons zL<|.cons (Dr (mk:=Dm))<|.nil))<|.cons zL<|.nil)) ?_)
  exact MJ (by rw[←iK h1 (by omega) hn (show k=ps.length by omega)];unfold M0;rw[if_pos h7];rfl)
 refine yE<|zW (.r 1 (xc 1 Dw rfl zJ rfl)<|.w 0 (xn 0 rfl yL FB rfl)<|.b rfl<|.nil) rfl fun g30=>CZ 0 (E2 6 7 rfl) rfl<|De<|zQ (.cons (.ag 0 (.t rfl) Dw rfl rfl rfl)<|.cons (.tmp (.t rfl))<|.nil) (zM (Dk (.cons (Dx (.cons zL<|.cons zL<|.cons (Ed 0 rfl)<|.nil))<|.cons zL<|.nil)) ?_)
 exact MJ (by rw[←iK h1 (by omega) hn (show k=ps.length by omega)];unfold M0;rw[if_neg (by simp[h7])])
theorem tm{ps:List H9}{t:Int}:Ct prog 13 [QB ps,I6 t] (Xd (IY H7 ps t)):=by
 refine Ct.of func13 rfl (by kernel_rfl) rfl fun c0=>yN (To.emps 2)<|zV (.w 0 (xa 0 rfl yL rfl)<|.w 1 (xj 1 EU rfl)<|.b rfl<|.nil) rfl fun g1=>nx (E3 1 2 4 rfl) (R2 0 1 rfl)<|zW (.r 0 (xc 0 Sj rfl zJ rfl)<|.m rfl<|.n (zP (bp kW) ⟨(.t rfl),(.t rfl),(Lk.fnq (α:=H9×Nat) (C:=fun _=>True) (ps:=fun i=>[DL (Od i.1),Dm i.2]) (R:=fun i=>I2 (I2 Dm) (H7 i.1 i.2)) (fun i _=>pI) VP),trivial⟩)<|.n (xk rfl)<|.n (xk rfl)<|.w 1 (xn 1 rfl yL FB rfl)<|.z rfl) rfl fun g2=>CZ 1 (E2 4 5 rfl) rfl<|De<|zQ (.cons (.ag 0 (.t rfl) Dw rfl rfl rfl)<|.cons (.tmp (.t rfl))<|.nil) (zM (Dk (.cons zL<|.cons zL<|.nil)) ?_)
 exact zL
theorem z4{ps:List H9}{t:Int}:Ct prog 32 [QB ps,I6 t] (Xd (IY Ea ps t)):=by
 refine Ct.of func32 rfl (by kernel_rfl) rfl fun c0=>yN (To.emps 2)<|zV (.w 0 (xa 0 rfl yL rfl)<|.w 1 (xj 1 EU rfl)<|.b rfl<|.nil) rfl fun g1=>nx (E3 1 2 4 rfl) (R2 0 1 rfl)<|zW (.r 0 (xc 0 Sj rfl zJ rfl)<|.m rfl<|.n (zP (bp eU) ⟨(.t rfl),(.t rfl),(Lk.fnq (α:=H9×Nat) (C:=fun _=>True) (ps:=fun i=>[DL (Od i.1),Dm i.2]) (R:=fun i=>I2 (I2 Dm) (Ea i.1 i.2)) (fun i _=>rz) X8),trivial⟩)<|.n (xk rfl)<|.n (xk rfl)<|.w 1 (xn 1 rfl yL FB rfl)<|.z rfl) rfl fun g2=>CZ 1 (E2 4 5 rfl) rfl<|De<|zQ (.cons (.ag 0 (.t rfl) Dw rfl rfl rfl)<|.cons (.tmp (.t rfl))<|.nil) (zM (Dk (.cons zL<|.cons zL<|.nil)) ?_)
 exact zL
theorem aW{fid:Nat}{caps:List SP}{rs:Bool→Res}{n:Int}{g:Int→Int→Nat}{o:Int→Int→Bool}{b:Bool}(hs:KK n n)(hC: ∀ (i j:Int) (b:Bool),Lo n i j→En prog fid (I6 i::I6 j::caps) (rs b) (Dm (g i j)) (rs (b||o i j)))(hfx: ∀ b b2,Y3 (rs b) (rs b2)):En prog 65 [I6 (n),clv fid caps] (rs (b)) (EY n n (Nd n g)) (rs (b||XP o n.toNat 0)):=by
 refine En.of func65 rfl (by kernel_rfl) rfl (hfx _ _) fun c0 ob hr0=>?_
 have hm:=hs.mul
 have hs0:=hs
 obtain⟨hn1,hn2,_,_⟩:=hs
 refine DS<|zV (.w 1 (xj 1 EU rfl)<|.nil) rfl fun g1=>nx (E3 0 1 4 rfl) (R2 0 1 rfl)<|zC<|yN (To.emps 2)<|zV (.mm rfl<|.mm rfl<|.n (xu rfl (wo (by omega)))<|.w 2 (DI (mk:=Dm) 0 2 Dl EL rfl (fun _=>FZ) (.t rfl) (.t rfl) (by omega) (by omega) (by omega) (by omega) rfl)<|.n (HP 14 15 rfl rfl rfl (fun f=>(D1 EU rfl Hp (.g D7 rfl (.g D7 rfl (.g D7 rfl .nil))))) (fun f g h=>by rw[h 14 (show 14∈ [14]from by decide)]) rfl)<|.w 3 (xj 3 EU rfl)<|.w 3 (Ey 3 rfl rfl rfl (fun f=>yL) (fun f g h=>by rw[h 14 (show 14∈ [14]from by decide)]) (fun _=>FB) rfl (fun _=>rfl) rfl)<|.nil) rfl fun g2=>nx (E4 0 1 4 5 rfl) (R4 0 1 2 3 rfl)<|Dd<|zV (.m rfl<|.n (zA (.k rfl))<|.nil) rfl fun g3=>nx (E6 0 1 4 5 16 17 rfl) (R4 0 1 2 3 rfl)<|zC<|zT<|D4 (α:=Nat×List Nat) (fun x=>x.1≤n.toNat∧Mz n n (TD g) (MU x.1 0) x.2) (fun x=>n.toNat-x.1) (fun x restR=>(17,I6 (x.1:Int))::restR) (fun x restS=>rs (b||XP o x.1 0)::DC (g2 14) Dm x.2 53::restS) (ρc:=[(0,_),(1,_),(4,_),(5,_),(16,_)]) (σc:=[_,_]) (0,List.replicate (n*n).toNat 0) (by exact⟨A7 _,(by have h:=Wz (g:=g) hs0;rwa [Mf,S0 hs0]at h)⟩) (To.pick (fun _=>E6 17 0 1 4 5 16 rfl) (fun _=> .sub 0 rfl (yQ (by rw[nX,AM]))<|.sub 2 rfl (fun _ _ h=>h)<|.k 1 rfl<|.k 3 rfl<|.nil) (ks:=[0,2,1,3]) rfl) (fun x hI=>?_)
 obtain⟨k,l⟩:=x
 try simp only at hI
 show J _ _ ((17,I6 (k:Int))::_) (rs (b||XP o k 0)::DC (g2 14) Dm l 53::_) _ _
 refine zV (.n (xw rfl)<|.nil) rfl fun g4=>nx (E7 0 1 4 5 16 17 18 rfl) (R4 0 1 2 3 rfl)<|Dd<|zh rfl (fun h1=>?_) (fun h1=>?_)<;>try simp only[CT,Z]at h1
 ·refine yE<|Dd<|zT<|zV (.m rfl<|.z rfl) rfl fun g5=>nx (E7 0 1 4 5 6 16 17 rfl) (R4 0 1 2 3 rfl)<|zW (.m rfl<|.n (xo rfl (wo (by omega)))<|.n (zA (.k rfl))<|.nil) rfl fun g6=>nx (E9 0 1 4 5 6 16 17 21 22 rfl) (R4 0 1 2 3 rfl)<|zC<|zT<|D4 (α:=Nat×List Nat) (fun y=>y.1≤k+1∧Mz n n (TD g) (MU k y.1) y.2) (fun y=>k+1-y.1) (fun y restR=>(22,I6 (y.1:Int))::restR) (fun y restS=>rs (b||XP o k y.1)::DC (g2 14) Dm y.2 53::restS) (ρc:=[(0,_),(1,_),(4,_),(5,_),(6,_),(16,_),(17,_),(21,_)]) (σc:=[_,_]) (0,l) (by exact⟨A7 _,hI.2⟩) (Es (fun _=>E9 22 0 1 4 5 6 16 17 21 rfl) fun _=>R4 0 1 2 3 rfl) (fun y hJ=>?_)
  obtain⟨q,m⟩:=y
  try simp only at hJ
  show J _ _ ((22,I6 (q:Int))::_) (rs (b||XP o k q)::DC (g2 14) Dm m 53::_) _ _
  have hml:=hJ.2.1
  refine zV (.n (xw rfl)<|.nil) rfl fun g7=>nx (I4 0 1 4 5 6 16 17 21 22 23 rfl) (R4 0 1 2 3 rfl)<|Dd<|zh rfl (fun h2=>?_) (fun h2=>?_)<;>try simp only[CT,Z]at h2
  ·have p1:=(show Pl n n k q from ⟨by omega,by omega,by omega,by omega⟩).rng hs0
   have p2:=(show Pl n n q k from ⟨by omega,by omega,by omega,by omega⟩).rng hs0
   refine yE<|Dd<|zT<|zV (.m rfl<|.z rfl) rfl fun g8=>nx (I4 0 1 4 5 6 7 16 17 21 22 rfl) (R4 0 1 2 3 rfl)<|zW (.mm rfl<|.m rfl<|.w 0 (Jm 0 (ps:=[_,_]) (hC _ _ _ ⟨by omega,by omega,by omega⟩) (.t rfl) (A2 rfl) rfl)<|.z rfl) rfl fun g9=>nx (Ec 0 1 4 5 6 7 8 16 17 21 rfl<|E1 22 rfl) (R4 0 1 2 3 rfl)<|zC<|(zG [[],[0],[],[],[2,3],[],[2,3,4,5],[],[7],[],[],[9,10],[],[9,10,11,12],[],[],[0,1,2,3,4,5,6,14],[0,1,2,3,4,5,6,14,16],[0,1,2,3,4,5,6,7,8,9,10,11,12,13,14,15,16,17],[0,1,2,3,4,5,6,7,8,9,10,11,12,13,14,15,16,17,18]] (.n (xe Ek rfl)<|.r 3 (xf 3 Eo rfl zJ rfl)<|.mm rfl<|.n (xu rfl (wo (by omega)))<|.m rfl<|.n (xq rfl (wo (by omega)))<|.n (xe Ek rfl)<|.r 3 (xf 3 Eo rfl zJ rfl)<|.mm rfl<|.n (xu rfl (wo (by omega)))<|.m rfl<|.n (xq rfl (wo (by omega)))<|.mm rfl<|.r 1 (xz 1 Dl rfl (by omega) (by omega))<|.w 1 (xA 1 rfl Dj Lr rfl (by omega))<|.r 1 (xz 1 Dl rfl (by omega) (by rw[Aa];omega))<|.w 1 (xA 1 rfl Dj Lr rfl (by rw[Aa];omega))<|.nil) (fun _=>Di) rfl fun g10=>nx (E9 0 1 4 5 6 16 17 21 22 rfl) (R4 0 1 2 3 rfl) ?_)
   refine zR<|zC<|(zG [] (.n (xo rfl (wo (by omega)))<|.m rfl<|.nil) ff rfl fun g11=>nx (E9 0 1 4 5 6 16 17 21 22 rfl) (R4 0 1 2 3 rfl) ?_)
   exact yW (q+1,(m.set ((k:Int)*n+q).toNat (g k q)).set ((q:Int)*n+k).toNat (g k q)) (by exact⟨show q+1≤_ by omega,Wy hs0 (by omega) (by omega) (by omega) hJ.2⟩) (by show k+1-(_+1)<_;omega) (To.pick (fun _=>E9 22 0 1 4 5 6 16 17 21 rfl) (fun _=> .sub 0 rfl (yQ (by rw[nW,AA]))<|.sub 1 rfl (fun _ _ h=>h)<|.k 2 rfl<|.k 3 rfl<|.nil) (ks:=[0,1,2,3]) rfl)
  refine D6<|zE<|zE<|zS<|zR<|zC<|(zG [] (.n (xo rfl (wo (by omega)))<|.m rfl<|.nil) ff rfl fun g12=>nx (E6 0 1 4 5 16 17 rfl) (R4 0 1 2 3 rfl) ?_)
  exact yW (k+1,m) (by exact⟨show k+1≤_ by omega,bw (by omega) (show q=k+1 by omega) hJ.2⟩) (by show n.toNat-(_+1)<_;omega) (To.pick (fun _=>E6 17 0 1 4 5 16 rfl) (fun _=> .sub 0 rfl (yQ (by rw[sL (show q=k+1 by omega)]))<|.sub 1 rfl (fun _ _ h=>h)<|.k 2 rfl<|.k 3 rfl<|.nil) (ks:=[0,1,2,3]) rfl)
 refine D6<|zE<|zE<|zS<|zW (.r 3 (xc 3 Dw rfl zJ rfl)<|.w 2 (xn 2 rfl yL FB rfl)<|.nil) rfl fun g13=>nx (E1 4 rfl) (R3 0 1 2 rfl)<|De<|D5 (To.res 0 (r':=rs (b||XP o n.toNat 0)) rfl (yQ (by rw[show k=n.toNat by omega])) rfl)<|D5 (To.freezeM 1 0 hr0 (hfx _ _) rfl rfl rfl Dz rfl)<|Db 0 hr0 (hfx _ _) rfl (.cons (.ag 2 (.t rfl) Dw rfl rfl rfl)<|.nil) (zM (yD (Dx (.cons zL<|.cons zL<|.cons (Ed 0 rfl)<|.nil))) ?_)
 exact L8 (by rw[Wx hs0 (show k=n.toNat by omega) hI.2];rfl)
theorem W8{u:Value}{b:Bool}{cs:List SP}{T:TypeId}{n:Int}{x p:List Nat}(h:b=false→Gs n n p=0∧Gw n n p=true):En prog 68 [DW u 0,Dp x,EY n n p] (Dh u (CW (.bool (b))::cs) T) (rF (IH b n x p)) (Dh u (CW (.bool (b))::cs) T):=by
 refine En.of func68 rfl (by kernel_rfl) rfl (CU) fun c0 ob hr0=>yN (To.emps 2)<|zV (.w 1 (xa 1 rfl yL rfl)<|.w 2 (xj 2 G8 rfl)<|.b rfl<|.nil) rfl fun g1=>nx (E4 0 1 5 6 rfl) (R3 0 1 2 rfl)<|Dd<|zT<|zV (.m rfl<|.w 0 (CV 0 (S4) (A1 rfl) rfl)<|.z rfl) rfl fun g2=>nx (E4 1 5 6 8 rfl) (R3 0 1 2 rfl)<|zC<|zh rfl (fun h1=>?_) (fun h1=>?_)<;>have h1':=h1<;>try simp only[CT,Z]at h1
 ·refine zV (.n (D1 G8 rfl J3 .nil)<|.w 2 (xn 2 rfl yL GO rfl)<|.b rfl<|.nil) rfl fun g3=>nx (E2 6 7 rfl) (R2 0 2 rfl)<|De<|yP<|zD<|Db 0 hr0 (CU) rfl (.cons (.ag 1 (.t rfl) Fl rfl rfl rfl)<|.cons (.tmp (.t rfl))<|.nil) (zM (Dk (.cons (Dx (.cons (Dr (mk:=Dm))<|.cons zL<|.cons zL<|.cons (Dr (mk:=Dm))<|.nil))<|.cons zL<|.nil)) ?_)
  exact MI (s:=Ny) (by unfold IH;rw[if_pos h1'])
 obtain⟨hc1,hc2⟩:=h h1'
 refine zV (.r 1 (xc 1 Dw rfl zJ rfl)<|.n (zP (aX hc1 hc2) (A1 rfl))<|.n (EI (.t rfl))<|.z rfl) rfl fun g4=>nx (E4 1 5 6 12 rfl) (R3 0 1 2 rfl)<|zC<|zh rfl (fun h2=>?_) (fun h2=>?_)<;>have h2':=h2<;>try simp only[CT,Z]at h2
 ·refine zV (.n (D1 G8 rfl J3 .nil)<|.w 2 (xn 2 rfl yL GO rfl)<|.b rfl<|.nil) rfl fun g5=>nx (E2 6 7 rfl) (R2 0 2 rfl)<|De<|yP<|zD<|Db 0 hr0 (CU) rfl (.cons (.ag 1 (.t rfl) Fl rfl rfl rfl)<|.cons (.tmp (.t rfl))<|.nil) (zM (Dk (.cons (Dx (.cons (Dr (mk:=Dm))<|.cons zL<|.cons zL<|.cons (Dr (mk:=Dm))<|.nil))<|.cons zL<|.nil)) ?_)
  exact MI (s:=Ny) (by unfold IH;rw[if_neg (by rw[h1'];decide),if_pos (by simpa using h2')])
 refine yE<|zR<|zW (.m rfl<|.r 1 (xc 1 Dw rfl zJ rfl)<|.n (D1 G8 rfl J3 (.g FP rfl (.cons rfl (.t rfl) yL rfl (yU rfl (A8 rfl)) .nil)))<|.w 2 (xn 2 rfl yL GO rfl)<|.b rfl<|.nil) rfl fun g6=>nx (E2 6 7 rfl) (R2 0 2 rfl)<|De<|Db 0 hr0 (CU) rfl (.cons (.ag 1 (.t rfl) Fl rfl rfl rfl)<|.cons (.tmp (.t rfl))<|.nil) (zM (Dk (.cons zL<|.cons zL<|.nil)) ?_)
 exact D3 (by unfold IH;rw[if_neg (by rw[h1'];decide),if_neg (by simpa using h2')];rfl)
theorem dU{u:Value}{b:Bool}{T:TypeId}{n i j:Int}{f m q:List Nat}(hf:Fc n n f)(hm:Fc n n m)(hq:Fc n n q)(hp:Lo n i j):En prog 66 [I6 (i),I6 (j),Gf [DW u 0],Gf [I6 n,I6 n,Dp m],Gf [I6 n,I6 n,Dp f],Gf [I6 n,I6 n,Dp q],Gf [I6 n]] (Dh u (CW (.bool b)::[]) T) (Dm (prG n f m q i j)) (Dh u (CW (.bool (b||zn n f m q i j))::[]) T):=by
 refine En.of func66 rfl (by kernel_rfl) rfl (CU) fun c0 ob hr0=>?_
 obtain⟨hp1,hp2,hp3⟩:=hp
 have hpr:=(show Pl n n i j from ⟨by omega,by omega,by omega,by omega⟩).rng hq.1
 have hql:=hq.2
 obtain⟨hn1,hn2,_,_⟩:=hq.1
 refine zV (.n (zB (Lk.fk rfl (by decide+kernel)))<|.nil) rfl fun g1=>CZ 0 (E7 0 1 2 3 4 5 6 rfl) rfl<|zC<|zF (zG [[],[],[],[],[2,3],[],[],[2,3,4,5,6],[1,2,3,4,5,6,7],[],[9],[],[],[11,12],[],[11,12,13,14],[9,10,11,12,13,14,15],[9,10,11,12,13,14,15,16],[1,2,3,4,5,6,7,8,9,10,11,12,13,14,15,16,17],[0,1,2,3,4,5,6,7,8,9,10,11,12,13,14,15,16,17,18],[0,1,2,3,4,5,6,7,8,9,10,11,12,13,14,15,16,17,18,19]] (.n (xy Xl rfl)<|.n (xy Xl rfl)<|.n (DB Dw (.t rfl) rfl rfl)<|.m rfl<|.n (zP (JV hm (by omega) (by omega)) (A2 rfl))<|.n (DB Dw (.t rfl) rfl rfl)<|.m rfl<|.n (zP (JV hf (by omega) (by omega)) (A2 rfl))<|.w 0 (CV 0 (IB (by rw[Fv,Fv];exact A5 _)) (A3 rfl) rfl)<|.n (xF Ek rfl)<|.n (xy Eo rfl)<|.m rfl<|.n (xy Ez rfl)<|.n (xu rfl (wo (by omega)))<|.m rfl<|.n (xq rfl (wo (by omega)))<|.n (xx 0 Dl rfl (by omega) (by omega))<|.n (xy Fp rfl)<|.n (xG (by simp) rfl)<|.w 0 (CV 0 (Hq) (A2 rfl) rfl)<|.z rfl) (fun _=>Di) rfl fun g2=>CZ 0 (E1 9 rfl) rfl ?_)
 refine De<|D5 (To.res 0 (r':=Dh u (CW (.bool (b||zn n f m q i j))::[]) T) rfl (yQ (by unfold zn;rw[←AA];rfl)) rfl)<|Db 0 hr0 (CU) rfl (.cons (.tmp (.t rfl))<|.nil) (zM (yD zL) ?_)
 exact zL
theorem jL{sx sa fa qa:List Nat}{sr sc fr fc qr qc:Int}:Ct prog 33 [DL [Dp sx,I6 sr,I6 sc,Dp sa],EY fr fc fa,EY qr qc qa] (rF (MH ⟨sx,sr,sc,sa⟩ fr fc fa qr qc qa)):=by
 refine Ct.of func33 rfl (by kernel_rfl) rfl fun c0=>yN (To.emps 4)<|zV (.w 0 (xa 0 rfl yL rfl)<|.w 1 (xa 1 rfl yL rfl)<|.w 2 (xa 2 rfl yL rfl)<|.w 3 (xj 3 G8 rfl)<|.b rfl<|.nil) rfl fun g1=>nx (E4 3 4 5 6 rfl) (R4 0 1 2 3 rfl)<|Dd<|zV (.r 0 (xc 0 Fl rfl zJ rfl)<|.n (zP (JU (s:=⟨sx,sr,sc,sa⟩)) (A1 rfl))<|.z rfl) rfl fun g2=>nx (E5 3 4 5 6 8 rfl) (R4 0 1 2 3 rfl)<|zW (.m rfl<|.n (xd rfl)<|.nil) rfl fun g3=>nx (E6 3 4 5 6 8 20 rfl) (R4 0 1 2 3 rfl)<|zC<|zh rfl (fun h1=>?_) (fun h1=>?_)<;>try simp only[CT,Z]at h1
 ·refine zV (.n (D1 G8 rfl J3 .nil)<|.m rfl<|.w 3 (xn 3 rfl yL GO rfl)<|.z rfl) rfl fun g4=>CZ 3 (E2 6 7 rfl) rfl<|De<|zD<|zQ (.cons (.ag 0 (.t rfl) Fl rfl rfl rfl)<|.cons (.tmp (.t rfl))<|.nil) (zM (Dk (.cons (Dx (.cons (Dr (mk:=Dm))<|.cons zL<|.cons zL<|.cons (Dr (mk:=Dm))<|.nil))<|.cons zL<|.nil)) ?_)
  exact MI (s:=Ny) (by unfold MH;rw[Jw h1])
 have hK0:=J1.1 h1
 have hrp:(List.replicate (sx.length:Int).toNat (0:Nat)).length=sx.length:=Am
 have hK:=hK0
 obtain⟨hka,hkc,hkx,hkf,hky,hkp⟩:=hK
 have hkc:sc=sr:=hkc
 have hkx:(sx.length:Int)=sr:=hkx
 subst hkc
 subst hkx
 have hga:Fc (sx.length:Int) (sx.length:Int) sa:=Eg hka
 have hsl:=hga.1
 have hln:=hga.2
 obtain⟨hl0,hl1,_,_⟩:=hga.1
 refine yE<|zC<|DS<|zV (.n (xe FQ rfl)<|.r 0 (xf 0 Eo rfl zJ rfl)<|.n (xv Dl rfl)<|.w 4 (xj 4 zr3 rfl)<|.w 4 (xm 4 rfl D7 wE rfl)<|.nil) rfl fun g5=>nx (E5 3 4 5 6 9 rfl) (R5 0 1 2 3 4 rfl)<|Dd<|zV (.r 1 (xc 1 Dw rfl zJ rfl)<|.r 4 (xf 4 Ez rfl zJ rfl)<|.n (zP (jN) (A2 rfl))<|.z rfl) rfl fun g6=>nx (E6 3 4 5 6 9 10 rfl) (R5 0 1 2 3 4 rfl)<|zW (.m rfl<|.n (xd rfl)<|.nil) rfl fun g7=>nx (E7 3 4 5 6 9 10 30 rfl) (R5 0 1 2 3 4 rfl)<|zC<|zh rfl (fun h2=>?_) (fun h2=>?_)<;>try simp only[CT,Z]at h2
 ·refine zV (.n (D1 G8 rfl J3 .nil)<|.m rfl<|.w 3 (xn 3 rfl yL GO rfl)<|.z rfl) rfl fun g8=>CZ 3 (E2 6 7 rfl) rfl<|De<|zD<|zQ (.cons (.ag 0 (.t rfl) Fl rfl rfl rfl)<|.cons (.tmp (.t rfl))<|.nil) (zM (Dk (.cons (Dx (.cons (Dr (mk:=Dm))<|.cons zL<|.cons zL<|.cons (Dr (mk:=Dm))<|.nil))<|.cons zL<|.nil)) ?_)
  exact MI (s:=Ny) (by unfold MH;rw[ED (J1.2 hK0),Jw h2])
 have hsf:oE fr fc fa (sx.length:Int)=0:=h2
 obtain⟨hf1,hf2,hf3⟩:=tU hsf
 refine yE<|Dd<|zV (.r 2 (xc 2 Dw rfl zJ rfl)<|.r 4 (xf 4 Ez rfl zJ rfl)<|.n (zP (jN) (A2 rfl))<|.z rfl) rfl fun g9=>nx (E6 3 4 5 6 9 11 rfl) (R5 0 1 2 3 4 rfl)<|zW (.m rfl<|.n (xd rfl)<|.nil) rfl fun g10=>nx (E7 3 4 5 6 9 11 37 rfl) (R5 0 1 2 3 4 rfl)<|zC<|zh rfl (fun h3=>?_) (fun h3=>?_)<;>try simp only[CT,Z]at h3
 ·refine zV (.n (D1 G8 rfl J3 .nil)<|.m rfl<|.w 3 (xn 3 rfl yL GO rfl)<|.z rfl) rfl fun g11=>CZ 3 (E2 6 7 rfl) rfl<|De<|zD<|zQ (.cons (.ag 0 (.t rfl) Fl rfl rfl rfl)<|.cons (.tmp (.t rfl))<|.nil) (zM (Dk (.cons (Dx (.cons (Dr (mk:=Dm))<|.cons zL<|.cons zL<|.cons (Dr (mk:=Dm))<|.nil))<|.cons zL<|.nil)) ?_)
  exact MI (s:=Ny) (by unfold MH;rw[ED (J1.2 hK0),ED hsf,Jw h3])
 have hsq:oE qr qc qa (sx.length:Int)=0:=h3
 obtain⟨hq1,hq2,hq3⟩:=tU hsq
 subst hf2
 subst hf3
 subst hq2
 subst hq3
 have hgf:=Eg hf1
 have hgq:=Eg hq1
 have hgm:=OT hgf hga
 refine yE<|Dd<|zV (.r 2 (xc 2 Dw rfl zJ rfl)<|.n (zP (ZB) (A1 rfl))<|.n (EI (.t rfl))<|.nil) rfl fun g12=>nx (E6 3 4 5 6 9 42 rfl) (R5 0 1 2 3 4 rfl)<|zC<|zh rfl (fun h4=>?_) (fun h4=>?_)<;>have h4':=h4<;>try simp only[CT,Z]at h4
 ·refine zV (.n (D1 G8 rfl J3 .nil)<|.w 3 (xn 3 rfl yL GO rfl)<|.b rfl<|.nil) rfl fun g13=>CZ 3 (E2 6 7 rfl) rfl<|De<|zD<|zQ (.cons (.ag 0 (.t rfl) Fl rfl rfl rfl)<|.cons (.tmp (.t rfl))<|.nil) (zM (Dk (.cons (Dx (.cons (Dr (mk:=Dm))<|.cons zL<|.cons zL<|.cons (Dr (mk:=Dm))<|.nil))<|.cons zL<|.nil)) ?_)
  exact MI (s:=Ny) (by unfold MH;rw[ED (J1.2 hK0),ED hsf,ED hsq,if_neg (by simpa using h4'),Jw (by decide)])
 refine yE<|zC<|yN (To.emps 2)<|zV (.n (D1 a0C rfl zd .nil)<|.w 5 (xa 5 rfl yL rfl)<|.w 6 (xj 6 a0B rfl)<|.w 6 (Ey 6 rfl rfl rfl (fun f=>HH) (fun f g h=>by rw[h 45 (show 45∈ [45]from by decide)]) (fun _=>a0q) rfl (fun _=>rfl) rfl)<|.nil) rfl fun g14=>nx (E6 3 4 5 6 9 12 rfl) (R7 0 1 2 3 4 5 6 rfl)<|zC<|DS<|zV (.r 4 (xf 4 Ez rfl zJ rfl)<|.w 7 (DI (mk:=Dm) 0 7 Dl EL rfl (fun _=>FZ) (.t rfl) (.t rfl) (by omega) (by omega) (by omega) (by omega) rfl)<|.n (yX rfl rfl)<|.nil) rfl fun g15=>nx (E7 3 4 5 6 9 12 13 rfl) (R8 0 1 2 3 4 5 6 7 rfl)<|Dd<|zV (.m rfl<|.r 7 (EZ 7 Dl (.t rfl) rfl)<|.n (zA (.k rfl))<|.nil) rfl fun g16=>nx (E9 3 4 5 6 9 12 13 49 50 rfl) (R8 0 1 2 3 4 5 6 7 rfl)<|zC<|zT<|D4 (α:=Nat) (fun k=>k≤sx.length) (fun k=>sx.length-k) (fun k restR=>(50,I6 (k:Int))::restR) (fun k restS=>Dh (g14 45) (CW (.bool (vF (zp (sx.length:Int) fa sx) k))::[]) 130::DC (g15 47) Dm (VY (zo (sx.length:Int) fa sx) sx.length k) 53::restS) (ρc:=[(3,_),(4,_),(5,_),(6,_),(9,_),(12,_),(13,_),(49,_)]) (σc:=[_,_,_,_,_,_]) 0 (by exact A7 _) (To.pick (fun _=>E9 50 3 4 5 6 9 12 13 49 rfl) (fun _=> .sub 5 rfl (fun _ _ h=>h)<|.sub 7 rfl (yQ (by rw[Js];rfl))<|.k 0 rfl<|.k 1 rfl<|.k 2 rfl<|.k 3 rfl<|.k 4 rfl<|.k 6 rfl<|.nil) (ks:=[5,7,0,1,2,3,4,6]) rfl) (fun k hI=>?_)
 have hfl:=Mc (f:=zo (sx.length:Int) fa sx) hI
 refine zV (.n (xw rfl)<|.nil) rfl fun g17=>nx (I4 3 4 5 6 9 12 13 49 50 51 rfl) (R8 0 1 2 3 4 5 6 7 rfl)<|Dd<|zh rfl (fun h5=>?_) (fun h5=>?_)<;>try simp only[CT,Z]at h5
 ·refine yE<|Dd<|zT<|zV (.m rfl<|.z rfl) rfl fun g18=>nx (I4 3 4 5 6 9 12 13 14 49 50 rfl) (R8 0 1 2 3 4 5 6 7 rfl)<|zC<|(zG [[],[],[],[],[],[3,4],[],[6],[2,3,4,5,6,7],[0,1,2,3,4,5,6,7,8],[0,1,2,3,4,5,6,7,8,9]] (.mm rfl<|.r 7 (xf 7 Xl rfl zJ rfl)<|.r 3 (xc 3 Dw rfl zJ rfl)<|.m rfl<|.n (zP (JV hgf (by omega) (by omega)) (A2 rfl))<|.n (xe FQ rfl)<|.r 2 (xf 2 Eo rfl zJ rfl)<|.w 0 (CV 0 (IB (by rw[Fv];omega)) (A3 rfl) rfl)<|.r 1 (xz 1 Dl rfl (by omega) (by omega))<|.w 1 (xA 1 rfl Dj Lr rfl (by omega))<|.nil) (fun _=>Di) rfl fun g19=>nx (E9 3 4 5 6 9 12 13 49 50 rfl) (R8 0 1 2 3 4 5 6 7 rfl) ?_)
  refine zR<|zC<|(zG [] (.n (xo rfl (wo (by omega)))<|.m rfl<|.nil) ff rfl fun g20=>nx (E9 3 4 5 6 9 12 13 49 50 rfl) (R8 0 1 2 3 4 5 6 7 rfl) ?_)
  exact yW (k+1) (by omega) (by omega) (To.pick (fun _=>E9 50 3 4 5 6 9 12 13 49 rfl) (fun _=> .sub 0 rfl (yQ (by rw[HX];rfl))<|.sub 1 rfl (yQ (congrArg (fun l=>DC (g15 47) Dm l 53) (Md (by omega) rfl)))<|.k 2 rfl<|.k 3 rfl<|.k 4 rfl<|.k 5 rfl<|.k 6 rfl<|.k 7 rfl<|.nil) (ks:=[0,1,2,3,4,5,6,7]) rfl)
 refine D6<|zE<|zE<|zS<|zC<|DS<|zV (.r 7 (xf 7 Xl rfl zJ rfl)<|.r 3 (xc 3 Dw rfl zJ rfl)<|.n (xe Ff rfl)<|.r 2 (xc 2 Dw rfl zJ rfl)<|.w 0 (CV 0 (W9 hgf hga) (A3 rfl) rfl)<|.w 8 (xj 8 EU rfl)<|.w 8 (xm 8 rfl yL FB rfl)<|.nil) rfl fun g21=>nx (E7 4 5 6 9 12 13 15 rfl) (R8 0 1 3 4 5 6 7 8 rfl)<|zC<|yN (To.freeze 6 (fun _ h=>h) rfl Dv rfl)<|yN (To.freeze 7 (fun _ h=>h) rfl Dv rfl)<|yN (To.freeze 2 (fun _ h=>h) rfl Dv rfl)<|yN (To.freeze 3 (fun _ h=>h) rfl Dv rfl)<|yN (To.freeze 5 (fun _ h=>h) rfl Dv rfl)<|DS<|zV (.n (yC Ez (Lk.sub (DN 0 1 rfl rfl) (.t rfl)) rfl)<|.n (Fh (ps:=[_,_,_,_,_]) ⟨(Lk.sub (DN 4 1 rfl rfl) (.t rfl)),(Lk.sub (DN 3 3 rfl rfl) (.t rfl)),(Lk.sub (DN 2 3 rfl rfl) (.t rfl)),(Lk.sub (DN 1 3 rfl rfl) (.t rfl)),(Lk.sub (DN 0 1 rfl rfl) (.t rfl)),trivial⟩)<|.w 0 (CV 0 (aW (rs:=fun b=>Dh (g14 45) (CW (.bool b)::[]) 130) hsl (fun i j b h=>dU hgf hgm hgq h) (fun b b2=>CU)) (A2 rfl) rfl)<|.w 2 (xj 2 EU rfl)<|.w 2 (xm 2 rfl yL FB rfl)<|.nil) rfl fun g22=>nx (E4 6 12 13 16 rfl) (R4 0 1 2 4 rfl)<|zC<|yN (To.freeze 1 (fun _ h=>h) rfl Dz rfl)<|yN (To.slot 13 rfl (q:=Dp ((List.range sx.length).map (zo (sx.length:Int) fa sx))) (zM (Ed 0 rfl) (D3 (by rw[show k=sx.length by omega,Kq]))))<|yN (To.res 0 (r':=Dh (g14 45) (CW (.bool (prF (sx.length:Int) sx sa fa qa))::[]) 130) rfl (yQ (by rw[show k=sx.length by omega];rfl)) rfl) ?_
 refine zV (.n (yC Xl (Lk.sub (DN 5 1 rfl rfl) (.t rfl)) rfl)<|.m rfl<|.r 2 (xc 2 Dw rfl zJ rfl)<|.w 0 (CV 0 (W8 (fun h=>vZ hsl h)) (A3 rfl) rfl)<|.n (xk rfl)<|.n (xk rfl)<|.w 3 (xn 3 rfl yL GO rfl)<|.z rfl) rfl fun g23=>nx (E2 6 7 rfl) (R2 0 3 rfl)<|De<|zQ (.cons (.ag 1 (.t rfl) Fl rfl rfl rfl)<|.cons (.tmp (.t rfl))<|.nil) (zM (Dk (.cons zL<|.cons zL<|.nil)) ?_)
 exact D3 (by unfold MH;rw[ED (J1.2 hK0),ED hsf,ED hsq,if_pos (by simpa using h4'),ED rfl];rfl)
end Go.Proofs.YtgfanjebfjeneaaGreatDoor
