/- Printed by a program of ours (walk.py): walks of whole numbers in memory. -/
import Derived.Test.YtgfanjebfjeneaaGreatDoorZqM1
import Derived.Test.YtgfanjebfjeneaaGreatDoorProg
import Derived.KernelRfl
import Derived.Test.YtgfanjebfjeneaaGreatDoorZqM11
import Derived.Test.YtgfanjebfjeneaaGreatDoorZqM21
import Derived.Test.YtgfanjebfjeneaaGreatDoorZqM12
import Derived.Test.YtgfanjebfjeneaaGreatDoorZqM4
import Derived.Test.YtgfanjebfjeneaaGreatDoorZqM6
set_option linter.unusedVariables false
set_option linter.unusedSimpArgs false
set_option maxRecDepth 20000
set_option maxHeartbeats 8000000
namespace Go.Proofs.YtgfanjebfjeneaaGreatDoor
open Go Go.Bn Go.Proofs.Tryz
attribute [local irreducible] OpOK
theorem KZ{u:Value}{q0 q1:SP}{b:Bool}{l:List Int}(hd:Fm l):En prog 179 [DW u 0,CW (.bool b),DP .u32 l] (Dh u [q0,q1] 177) (DW u 0) (Dh u (Ks (Ds b (CX l).toNat)) 177):=by
 refine En.of func179 rfl (by kernel_rfl) rfl (CU) fun c0 ob hr0=>zV (.b rfl<|.nil) rfl fun g1=>CZ 0 (E3 0 1 2 rfl) rfl<|zW (.m rfl<|.n (zP (HI hd) (A1 rfl))<|.z rfl) rfl fun g2=>CZ 0 (E3 0 1 2 rfl) rfl<|zW (.mm rfl<|.n (xD rfl)<|.n (xe DV rfl)<|.w 0 (xn 0 rfl FP cJ rfl)<|.nil) rfl fun g3=>CZ 0 (E3 0 1 2 rfl) rfl<|zW (.mm rfl<|.m rfl<|.n (gu rfl (fun hC=>(xB rfl)))<|.n (gu rfl (fun hC=>(yV Da (.w rfl hC))))<|.n (gu rfl (fun hC=>(oc rfl (.w rfl hC) (.k rfl) rfl)))<|.n (EO (.t rfl) (fun h2=>(.w rfl h2)))<|.n (xD rfl)<|.n (xe Fz rfl)<|.w 0 (xn 0 rfl D7 sF rfl)<|.nil) rfl fun g4=>CZ 0 (E1 0 rfl) rfl<|zW (.m rfl<|.z rfl) rfl fun g5=>CZ 0 (E1 6 rfl) rfl<|De<|D5 (To.res 0 (r':=Dh u (Ks (Ds b (CX l).toNat)) 177) rfl (yQ (congrArg (fun cs=>Dh u cs 177) (P8 b (CX l).toNat))) rfl)<|Db 0 hr0 (CU) rfl (.cons (.tmp (.t rfl))<|.nil) (zM (yD zL) ?_)
 exact zL
theorem jE{u:Value}{q0 q1:SP}{n:Nat}(hn:n<18446744073709551616):En prog 227 [DW u 0,CW (.int .u64 (n:Int))] (Dh u [q0,q1] 177) (DW u 0) (Dh u (Ks ((n:Int))) 177):=by
 refine En.of func227 rfl (by kernel_rfl) rfl (CU) fun c0 ob hr0=>zV (.b rfl<|.nil) rfl fun g1=>CZ 0 (E2 0 1 rfl) rfl<|zW (.mm rfl<|.n (zP (OD (by omega)) (A1 rfl))<|.w 0 (CV 0 (KZ (D8 _)) ⟨(.t rfl),(.k rfl),(.t rfl),trivial⟩ rfl)<|.z rfl) rfl fun g2=>CZ 0 (E1 4 rfl) rfl<|De<|D5 (To.res 0 (r':=Dh u (Ks ((n:Int))) 177) rfl (yQ (by rw[Jc];rfl)) rfl)<|Db 0 hr0 (CU) rfl (.cons (.tmp (.t rfl))<|.nil) (zM (yD zL) ?_)
 exact zL
theorem qg{u:Value}{q0 q1:SP}{x y:Int}{t:Bool}(hx:Kk x)(hy:Kk y):En prog 229 [DW u 0,MB x,MB y,CW (.bool t)] (Dh u [q0,q1] 177) (DW u 0) (Dh u (Ks (x+Ds t 1*y)) 177):=by
 refine En.of func229 rfl (by kernel_rfl) rfl (CU) fun c0 ob hr0=>?_
 have lx:=Ov hx
 have ly:=Ov hy
 refine zV (.b rfl<|.nil) rfl fun g1=>CZ 0 (E4 0 1 2 3 rfl) rfl<|zW (.m rfl<|.n (xE rfl)<|.n (xF Fz rfl)<|.n (xy Kg rfl)<|.m rfl<|.n (LO underlying4 (.t rfl) (.t rfl))<|.z rfl) rfl fun g2=>CZ 0 (E4 0 1 2 9 rfl) rfl<|Dd<|zV (.m rfl<|.n (xE rfl)<|.n (xF Fz rfl)<|.n (xy Kg rfl)<|.m rfl<|.n (bI underlying4 (.t rfl) (.t rfl))<|.nil) rfl fun g3=>CZ 0 (E5 0 1 2 9 21 rfl) rfl<|zC<|zh rfl (fun h1=>?_) (fun h1=>?_)<;>have h1':=h1<;>try simp only[CT,Z]at h1
 ·refine zF (zG [[],[],[],[2],[2,3],[2,3,4],[],[6],[6,7],[6,7,8],[2,3,4,5,6,7,8,9],[0,1,2,3,4,5,6,7,8,9,10],[0,1,2,3,4,5,6,7,8,9,10,11]] (.mm rfl<|.m rfl<|.n (xE rfl)<|.n (xF DV rfl)<|.n (xy FF rfl)<|.m rfl<|.n (xE rfl)<|.n (xF DV rfl)<|.n (xy FF rfl)<|.n (zP (rr (D8 _) (D8 _) lx ly) (A2 rfl))<|.w 0 (CV 0 (KZ (D8 _)) (A3 rfl) rfl)<|.z rfl) (fun _=>Di) rfl fun g4=>CZ 0 (E1 8 rfl) rfl ?_)
  refine De<|zD<|D5 (To.res 0 (r':=Dh u (Ks (x+Ds t 1*y)) 177) rfl (yQ (by rw[Jc,qE,a0n h1'])) rfl)<|Db 0 hr0 (CU) rfl (.cons (.tmp (.t rfl))<|.nil) (zM (yD zL) ?_)
  exact zL
 refine yE<|Dd<|zF (zG [[],[0],[0,1],[0,1,2],[],[4],[4,5],[4,5,6],[0,1,2,3,4,5,6,7],[0,1,2,3,4,5,6,7,8]] (.m rfl<|.n (xE rfl)<|.n (xF DV rfl)<|.n (xy FF rfl)<|.m rfl<|.n (xE rfl)<|.n (xF DV rfl)<|.n (xy FF rfl)<|.n (zP (TL) (A2 rfl))<|.n (xd rfl)<|.nil) (fun _=>Di) rfl fun g5=>CZ 0 (E5 0 1 2 9 43 rfl) rfl ?_)
 refine zC<|zh rfl (fun h2=>?_) (fun h2=>?_)<;>try simp only[CT,Z]at h2
 ·have hle:=aq h2
  refine zF (zG [[],[],[1],[1,2],[1,2,3],[],[5],[5,6],[5,6,7],[],[9],[9,10],[9,10,11],[5,6,7,8,9,10,11,12],[0,1,2,3,4,5,6,7,8,9,10,11,12,13],[0,1,2,3,4,5,6,7,8,9,10,11,12,13,14]] (.mm rfl<|.n (xE rfl)<|.n (xF Fz rfl)<|.n (xy Kg rfl)<|.m rfl<|.n (xE rfl)<|.n (xF DV rfl)<|.n (xy FF rfl)<|.m rfl<|.n (xE rfl)<|.n (xF DV rfl)<|.n (xy FF rfl)<|.n (zP (Rw (D8 _) (D8 _) lx ly (k9 hle) (kE hle)) (A2 rfl))<|.w 0 (CV 0 (KZ (D8 _)) (A3 rfl) rfl)<|.z rfl) (fun _=>Di) rfl fun g6=>CZ 0 (E1 8 rfl) rfl ?_)
  refine De<|zD<|D5 (To.res 0 (r':=Dh u (Ks (x+Ds t 1*y)) 177) rfl (yQ (by rw[Jc,bo hle,a0o h1' hle])) rfl)<|Db 0 hr0 (CU) rfl (.cons (.tmp (.t rfl))<|.nil) (zM (yD zL) ?_)
  exact zL
 have hle:=ao (x:=x.natAbs) (y:=y.natAbs) (by omega)
 refine yE<|zC<|zF (zG [[],[],[],[2],[2,3],[2,3,4],[],[6],[6,7],[6,7,8],[2,3,4,5,6,7,8,9],[0,1,2,3,4,5,6,7,8,9,10],[0,1,2,3,4,5,6,7,8,9,10,11]] (.mm rfl<|.m rfl<|.n (xE rfl)<|.n (xF DV rfl)<|.n (xy FF rfl)<|.m rfl<|.n (xE rfl)<|.n (xF DV rfl)<|.n (xy FF rfl)<|.n (zP (Rw (D8 _) (D8 _) ly lx (k9 hle) (kE hle)) (A2 rfl))<|.w 0 (CV 0 (KZ (D8 _)) (A3 rfl) rfl)<|.z rfl) (fun _=>Di) rfl fun g7=>CZ 0 (E1 8 rfl) rfl ?_)
 refine De<|D5 (To.res 0 (r':=Dh u (Ks (x+Ds t 1*y)) 177) rfl (yQ (by rw[Jc,bo hle,a0p h1' hle])) rfl)<|Db 0 hr0 (CU) rfl (.cons (.tmp (.t rfl))<|.nil) (zM (yD zL) ?_)
 exact zL
theorem aU{u:Value}{q0 q1:SP}{x:Int}{n:Nat}(hx:Kk x)(hn:n≤8000000000000):En prog 224 [DW u 0,MB x,CW (.int .u64 (n:Int))] (Dh u [q0,q1] 177) (DW u 0) (Dh u (Ks (x*2^n)) 177):=by
 refine En.of func224 rfl (by kernel_rfl) rfl (CU) fun c0 ob hr0=>?_
 have lx:=Ov hx
 refine zV (.b rfl<|.nil) rfl fun g1=>CZ 0 (E3 0 1 2 rfl) rfl<|zC<|zF (zG [[],[],[1],[1,2],[1,2,3],[],[5],[5,6],[5,6,7],[],[5,6,7,8,9],[0,1,2,3,4,5,6,7,8,9,10],[0,1,2,3,4,5,6,7,8,9,10,11]] (.mm rfl<|.n (xE rfl)<|.n (xF Fz rfl)<|.n (xy Kg rfl)<|.m rfl<|.n (xE rfl)<|.n (xF DV rfl)<|.n (xy FF rfl)<|.m rfl<|.n (zP (b9 (D8 _) lx hn) (A2 rfl))<|.w 0 (CV 0 (KZ (D8 _)) (A3 rfl) rfl)<|.z rfl) (fun _=>Di) rfl fun g2=>CZ 0 (E1 6 rfl) rfl ?_)
 refine De<|D5 (To.res 0 (r':=Dh u (Ks (x*2^n)) 177) rfl (yQ (by rw[Jc,qG,tP])) rfl)<|Db 0 hr0 (CU) rfl (.cons (.tmp (.t rfl))<|.nil) (zM (yD zL) ?_)
 exact zL
theorem jF{x:Int}:Ct prog 141 [MB x] (I6 (HT x)):=by
 refine Ct.of func141 rfl (by kernel_rfl) rfl fun c0=>?_
 have hl0:=Fo (n:=x.natAbs)
 refine zV (.b rfl<|.nil) rfl fun g1=>CY (E1 0 rfl)<|Dd<|zV (.m rfl<|.n (xE rfl)<|.n (xF DV rfl)<|.n (xy FF rfl)<|.n (xv Da rfl)<|.n (xd rfl)<|.nil) rfl fun g2=>CY (E2 0 8 rfl)<|zC<|zh rfl (fun h1=>?_) (fun h1=>?_)<;>try simp only[CT,Z]at h1
 ·refine zV (.b rfl<|.nil) rfl fun g3=>CY (E1 2 rfl)<|De<|zD<|DO rfl<|Dc (by have h9:=hl0.1 (by omega);unfold HT;rw[if_neg (by omega),if_pos (by omega)])
 refine yE<|Dd<|zV (.m rfl<|.n (xE rfl)<|.n (xF Fz rfl)<|.n (xy Kg rfl)<|.nil) rfl fun g4=>CY (E1 12 rfl)<|zC<|zh rfl (fun h2=>?_) (fun h2=>?_)<;>try simp only[CT,Z]at h2
 ·refine zV (.b rfl<|.nil) rfl fun g5=>CY (E1 2 rfl)<|De<|zD<|DO rfl<|Dc (by have e:x<0:=(by simpa using h2);unfold HT;rw[if_pos e])
 refine yE<|zW (.b rfl<|.nil) rfl fun g6=>CY (E1 2 rfl)<|De<|DO rfl<|Dc (by have e: ¬x<0:=(by simpa using h2);have h9: ¬x=0:=(fun e0=>by subst e0;have:=hl0.2 rfl;omega);unfold HT;rw[if_neg e,if_neg h9])
theorem jA{u:Value}{x:Int}(hx:Kk x):En prog 228 [DW u 0,DW u 0] (Dh u (Ks (x)) 177) (DW u 0) (Dh u (Ks (-x)) 177):=by
 refine En.of func228 rfl (by kernel_rfl) rfl (CU) fun c0 ob hr0=>?_
 have lx:=Ov hx
 refine zV (.b rfl<|.nil) rfl fun g1=>CZ 0 (E2 0 1 rfl) rfl<|zC<|zF (zG [[],[],[1],[1,2],[1,2,3],[1,2,3,4],[],[6],[6,7],[6,7,8],[6,7,8,9],[0,1,2,3,4,5,6,7,8,9,10],[0,1,2,3,4,5,6,7,8,9,10,11]] (.mm rfl<|.n (xD rfl)<|.n (xe Fz rfl)<|.r 0 (xf 0 Kg rfl zJ rfl)<|.n (EI (.t rfl))<|.m rfl<|.n (xD rfl)<|.n (xe DV rfl)<|.r 0 (xf 0 FF rfl zJ rfl)<|.n (FM Da I1 rfl (.k rfl) (.t rfl) (by omega) (by omega))<|.w 0 (CV 0 (KZ (D8 _)) (A3 rfl) rfl)<|.z rfl) (fun _=>Di) rfl fun g2=>CZ 0 (E1 4 rfl) rfl ?_)
 refine De<|D5 (To.res 0 (r':=Dh u (Ks (-x)) 177) rfl (yQ (by rw[Jc,tu])) rfl)<|Db 0 hr0 (CU) rfl (.cons (.tmp (.t rfl))<|.nil) (zM (yD zL) ?_)
 exact zL
theorem jD{u:Value}{q0 q1:SP}{n:Nat}(hn:n<9223372036854775808):En prog 251 [DW u 0,I6 (n:Int)] (Dh u [q0,q1] 177) (DW u 0) (Dh u (Ks ((n:Int))) 177):=by
 refine En.of func251 rfl (by kernel_rfl) rfl (CU) fun c0 ob hr0=>zV (.b rfl<|.nil) rfl fun g1=>CZ 0 (E2 0 1 rfl) rfl<|zW (.m rfl<|.n (xg qh El rfl (DD (by omega) (by omega)))<|.z rfl) rfl fun g2=>CZ 0 (E3 0 1 5 rfl) rfl<|Dd<|zV (.m rfl<|.n (xd rfl)<|.nil) rfl fun g3=>CZ 0 (E4 0 1 5 9 rfl) rfl<|zC<|zh rfl (fun h1=>?_) (fun h1=>?_)<;>try simp only[CT,Z]at h1
 ·exact absurd h1 (by omega)
 refine yE<|zW (.mm rfl<|.n (xd rfl)<|.m rfl<|.n (zP (OD (n:=n) (by omega)) (A1 rfl))<|.w 0 (CV 0 (KZ (D8 _)) (A3 rfl) rfl)<|.z rfl) rfl fun g4=>CZ 0 (E1 4 rfl) rfl<|De<|D5 (To.res 0 (r':=Dh u (Ks ((n:Int))) 177) rfl (yQ (by rw[Jc,n7])) rfl)<|Db 0 hr0 (CU) rfl (.cons (.tmp (.t rfl))<|.nil) (zM (yD zL) ?_)
 exact zL
theorem eR{n:Nat}(hn:n<9223372036854775808):Ct prog 225 [I6 (n:Int)] (MB (n:Int)):=by
 refine Ct.of func225 rfl (by kernel_rfl) rfl fun c0=>zV (.b rfl<|.nil) rfl fun g1=>CY (E1 0 rfl)<|zC<|DS<|zV (.n (D1 MS rfl RK .nil)<|.w 0 (xa 0 rfl yL rfl)<|.n (yX rfl rfl)<|.nil) rfl fun g2=>CZ 0 (E2 0 3 rfl) rfl<|zW (.mm rfl<|.w 0 (CV 0 (jD hn) (A2 rfl) rfl)<|.z rfl) rfl fun g3=>CZ 0 (E1 2 rfl) rfl<|De<|D5 (To.freeze 0 (fun _ h=>h) rfl Dv rfl)<|zQ (.cons (.tmp (.t rfl))<|.nil) (zM (yD (DN 0 2 rfl rfl)) ?_)
 exact zL
theorem sU{x:Nz}{e:Int}(hx:Exb x)(h0: -1000000≤e)(h1:e≤1000000):Ct prog 222 [pD x,I6 e] (pD (x.low e)):=by
 refine Ct.of func222 rfl (by kernel_rfl) rfl fun c0=>?_
 have hxm:=hx.h
 have hx0:=hx.e0
 have hx1:=hx.e1
 refine yN (To.emps 2)<|zV (.w 0 (xa 0 rfl yL rfl)<|.w 1 (xj 1 Y1 rfl)<|.nil) rfl fun g1=>nx (E3 1 2 4 rfl) (R2 0 1 rfl)<|Dd<|zV (.m rfl<|.n (xe Q6 rfl)<|.r 0 (xf 0 Ez rfl zJ rfl)<|.n (xw rfl)<|.nil) rfl fun g2=>nx (E4 1 2 4 8 rfl) (R2 0 1 rfl)<|zC<|zh rfl (fun h1=>?_) (fun h1=>?_)<;>try simp only[CT,Z]at h1
 ·refine zV (.r 0 (xc 0 SF rfl zJ rfl)<|.w 1 (xn 1 rfl yL cK rfl)<|.nil) rfl fun g3=>CZ 1 (E1 4 rfl) rfl<|De<|zD<|zQ (.cons (.ag 0 (.t rfl) SF rfl rfl rfl)<|.nil) (zM (yD zL) ?_)
  exact D3 (by unfold Nz.low;rw[if_pos (by omega)])
 refine yE<|zC<|DS<|zV (.w 2 (xj 2 MS rfl)<|.n (xe U1 rfl)<|.r 0 (xf 0 mZ rfl zJ rfl)<|.n (xe Q6 rfl)<|.r 0 (xf 0 Ez rfl zJ rfl)<|.m rfl<|.n (Eb (.t rfl) (.t rfl) (wo (by omega)))<|.n (xg KL I8 rfl (show IntKind.u64.wrap (x.e-e)=(((x.e-e).toNat:Nat):Int) by rw[DD (by omega) (by omega)];omega))<|.w 2 (F6 2 rfl rfl (fun u=>aU hxm (by omega)) rfl (A2 rfl))<|.m rfl<|.n (HP 18 20 rfl rfl rfl (fun f=>(D1 Y1 rfl lR (.g HH rfl (.g D7 rfl .nil)))) (fun f g h=>by rw[h 18 (show 18∈ [18]from by decide)]) rfl)<|.w 1 (LQ 20 rfl rfl (fun f=>yM 1 (.t rfl) (.t rfl) yL cK rfl rfl rfl) (fun f g h=>by rw[h 18 (show 18∈ [18]from by decide)]) rfl)<|.nil) rfl fun g4=>nx (E1 4 rfl) (R2 1 2 rfl)<|De<|D5 (To.freeze 1 (fun _ h=>h) rfl Dv rfl)<|zQ (.cons (.ag 0 (.t rfl) SF rfl rfl rfl)<|.nil) (zM (yD (Dx (.cons (DN 0 2 rfl rfl)<|.cons zL<|.nil))) ?_)
 exact D3 (by unfold Nz.low;rw[if_neg (by omega)])
theorem ld{m:Nat}{e:Int}(hm:m<18446744073709551616)(h0: -1000000≤e)(h1:e≤1000000):Ct prog 252 [CW (.int .u64 (m:Int)),I6 e] (EP [CW (.int .u64 (Kx m:Int)),I6 (IM m e)]):=by
 refine Ct.of func252 rfl (by kernel_rfl) rfl fun c0=>zV (.b rfl<|.b rfl<|.nil) rfl fun g1=>CY (E2 0 1 rfl)<|Dd<|zV (.m rfl<|.n (xd rfl)<|.nil) rfl fun g2=>CY (E3 0 1 7 rfl)<|zC<|zh rfl (fun h1=>?_) (fun h1=>?_)<;>try simp only[CT,Z]at h1
 ·refine zV (.b rfl<|.b rfl<|.nil) rfl fun g3=>CY (E2 4 5 rfl)<|De<|zD<|Lt rfl<|D3 (by unfold Kx IM;rw[if_pos (by omega),if_pos (by omega)];rfl)
 refine yE<|Dd<|zT<|D4 (α:=Nat) (fun k=>cV m k) (fun k=>64-k) (fun k restR=>(0,CW (.int .u64 ((m/2^k:Nat):Int)))::(1,I6 (e+(k:Int)))::restR) (fun k restS=>restS) (ρc:=[]) (σc:=[]) 0 (by exact lh (by omega)) (Es (fun _=> .sub (t:=0) rfl (yO (by exact congrArg (fun z=>CW (.int .u64 z)) (by simp)))<|.sub (t:=1) rfl (yO (by exact congrArg (fun z=>I6 z) (by omega)))<|.nil) fun _=>R0) (fun k hI=>?_)
 have hk64:=vM hI hm
 refine zF<|zV (.m rfl<|.n (Gr (.t rfl) (.k rfl) (by omega) rfl)<|.n (xd rfl)<|.nil) rfl fun g4=>CY (E3 0 1 10 rfl)<|zC<|zh rfl (fun h2=>?_) (fun h2=>?_)<;>try simp only[CT,Z]at h2
 ·have hlm:m/2^k≤m:=Co _ _
  have hev:(m/2^k) % 2=0:=(tX _).1 h2
  refine yE<|zC<|zT<|zV (.m rfl<|.n (Gq (.t rfl) (.k rfl) (by omega) (a1s (uW hm)))<|.z rfl) rfl fun g5=>CY (E2 0 1 rfl)<|zC<|(zG [] (.m rfl<|.n (xo rfl (wo (by omega)))<|.z rfl) ff rfl fun g6=>CY (E2 0 1 rfl) ?_)
  refine zR<|yW (k+1) (by exact lf hI hev) (by omega) (Es (fun _=> .sub (t:=0) rfl (yO (by exact congrArg (fun z=>CW (.int .u64 z)) (by rw[Ca,←Nat.div_div_eq_div_mul])))<|.sub (t:=1) rfl (yO (by exact congrArg (fun z=>I6 z) (by omega)))<|.nil) fun _=>R0)
 refine D6<|zE<|zE<|zS<|zW (.mm rfl<|.a rfl<|.z rfl) rfl fun g7=>CY (E2 4 5 rfl)<|De<|Lt rfl ?_
 have hod: ¬(m/2^k) % 2=0:=fun e=>h2 ((tX _).2 e)
 have hkt:=l9 hI hod
 have hm0:=hI.h0
 exact D3 (by unfold Kx IM;rw[if_neg hm0,if_neg hm0,←hkt])
theorem Zm{x:Nat}(hn:FN x=false):Ct prog 219 [Dm x] (EP [CW (.bool (On x)),I6 (FI x:Int),CW (.int .u64 (He x:Int))]):=by
 refine Ct.of func219 rfl (by kernel_rfl) rfl fun c0=>Yc 0 rfl fun hx1 hx2=>zV (.b rfl<|.b rfl<|.b rfl<|.nil) rfl fun g1=>CY (E1 0 rfl)<|zW (.m rfl<|.n (zP (PY) (A1 rfl))<|.z rfl) rfl fun g2=>CY (E1 5 rfl)<|zW (.m rfl<|.n (xr rfl (by omega) (Jz x 63 (by omega)))<|.n (xd rfl)<|.m rfl<|.n (xr rfl (by omega) (Jz x 52 (by omega)))<|.n (Gr (.t rfl) (.k rfl) (by omega) (show _=((FI x:Nat):Int)from rfl))<|.n (xg El KL rfl (NL x))<|.m rfl<|.n (Gr (.t rfl) (.k rfl) (by omega) (show _=((He x:Nat):Int)from rfl))<|.a rfl<|.a rfl<|.z rfl) rfl fun g3=>CY (E3 2 3 4 rfl)<|De<|zq rfl<|D3 (by rw[rZ hx1])
theorem fQ{x:Nat}(hf:DF x=true):Ct prog 226 [Dm x] (EP [DL [CW (.bool (On x)),CW (.int .u64 ((Kx (Iw x):Nat):Int)),I6 (IM (Iw x) (JK x))],I6 0]):=by
 refine Ct.of func226 rfl (by kernel_rfl) rfl fun c0=>?_
 have hex:FI x<2047:=by unfold DF at hf;simpa using hf
 have hml:=Nc x
 have hpg:=Uy x
 refine DS<|zV (.w 0 (xj 0 MO rfl)<|.b rfl<|.nil) rfl fun g1=>CZ 0 (E2 0 2 rfl) rfl<|zW (.m rfl<|.n (zP (Zm (Ht hf)) (A1 rfl))<|.m rfl<|.n (xk rfl)<|.n (xk rfl)<|.n (xk rfl)<|.a rfl<|.a rfl<|.z rfl) rfl fun g2=>CZ 0 (E4 2 4 5 6 rfl) rfl<|Dd<|zV (.m rfl<|.n (xd rfl)<|.nil) rfl fun g3=>CZ 0 (E5 2 4 5 6 16 rfl) rfl<|zC<|zh rfl (fun h1=>?_) (fun h1=>?_)<;>try simp only[CT,Z]at h1
 ·exact absurd h1 (by omega)
 refine yE<|Dd<|zV (.m rfl<|.n (xd rfl)<|.nil) rfl fun g4=>CZ 0 (E5 2 4 5 6 19 rfl) rfl<|zC<|zh rfl (fun h2=>?_) (fun h2=>?_)<;>try simp only[CT,Z]at h2
 ·have hpp:=(kL (x:=x) (by omega)).2
  have hpl:IntKind.i64.wrap ((FI x:Int) -1-1074)=JK x:=by rw[←hpp];exact zO (by omega) (by omega)
  have hmg:Iw x=Iw x:=rfl
  refine zV (.m rfl<|.n (xo rfl (qM (by omega)))<|.z rfl) rfl fun g5=>CZ 0 (E4 2 4 5 6 rfl) rfl<|zC<|(zG [] (.m rfl<|.n (xh rfl (wo (by omega)))<|.z rfl) ff rfl fun g6=>CZ 0 (E4 2 4 5 6 rfl) rfl ?_)
  refine zW (.mm rfl<|.n (xh rfl hpl)<|.n (zP (ld (by omega) (by omega) (by omega)) (A2 rfl))<|.m rfl<|.n (xk rfl)<|.n (xk rfl)<|.a rfl<|.z rfl) rfl fun g7=>CZ 0 (E4 2 4 7 8 rfl) rfl<|zW (.mm rfl<|.m rfl<|.n (D1 MO rfl bP (.g D7 rfl (.g D7 rfl (.g D7 rfl .nil))))<|.w 0 (xn 0 rfl yL Oy rfl)<|.b rfl<|.nil) rfl fun g8=>CZ 0 (E2 2 3 rfl) rfl<|De<|zQ (.cons (.ag 0 (.t rfl) Pr rfl rfl rfl)<|.cons (.tmp (.t rfl))<|.nil) (zM (Dk (.cons zL<|.cons zL<|.nil)) ?_)
  first|exact zL|exact D3 (by rw[hmg])
 obtain⟨hmg,hpp⟩:=tn (x:=x) (by omega)
 have hpl:IntKind.i64.wrap ((FI x:Int) -1074)=JK x:=by rw[hpp,show(FI x:Int)=0 by omega];exact zO (by omega) (by omega)
 refine yE<|zW (.mm rfl<|.n (xh rfl hpl)<|.n (zP (ld (by omega) (by omega) (by omega)) (A2 rfl))<|.m rfl<|.n (xk rfl)<|.n (xk rfl)<|.a rfl<|.z rfl) rfl fun g9=>CZ 0 (E4 2 4 7 8 rfl) rfl<|zW (.mm rfl<|.m rfl<|.n (D1 MO rfl bP (.g D7 rfl (.g D7 rfl (.g D7 rfl .nil))))<|.w 0 (xn 0 rfl yL Oy rfl)<|.b rfl<|.nil) rfl fun g10=>CZ 0 (E2 2 3 rfl) rfl<|De<|zQ (.cons (.ag 0 (.t rfl) Pr rfl rfl rfl)<|.cons (.tmp (.t rfl))<|.nil) (zM (Dk (.cons zL<|.cons zL<|.nil)) ?_)
 first|exact zL|exact D3 (by rw[hmg])
theorem wR{x:Nat}(hf:DF x=true):Ct prog 178 [Dm x] (pD (P1 x)):=by
 refine Ct.of func178 rfl (by kernel_rfl) rfl fun c0=>?_
 have hml:=Nc x
 have hol:=bG (Iw x)
 refine DS<|zV (.w 0 (xj 0 Y1 rfl)<|.nil) rfl fun g1=>CZ 0 (E2 0 2 rfl) rfl<|zC<|DS<|zV (.m rfl<|.n (zP (fQ hf) (A1 rfl))<|.m rfl<|.n (xk rfl)<|.n (xk rfl)<|.w 1 (xj 1 MO rfl)<|.w 1 (xm 1 rfl yL Oy rfl)<|.z rfl) rfl fun g2=>nx (E2 2 3 rfl) (R2 0 1 rfl)<|zC<|DS<|zV (.w 2 (xj 2 MS rfl)<|.n (xe Iv rfl)<|.r 1 (xf 1 Fa rfl zJ rfl)<|.w 2 (F6 2 rfl rfl (fun u=>jE (by omega)) rfl (A1 rfl))<|.n (yX rfl rfl)<|.nil) rfl fun g3=>nx (E3 2 3 5 rfl) (R3 0 1 2 rfl)<|Dd<|zV (.n (xe aJ rfl)<|.r 1 (xf 1 Kg rfl zJ rfl)<|.nil) rfl fun g4=>nx (E4 2 3 5 16 rfl) (R3 0 1 2 rfl)<|zC<|zh rfl (fun h1=>?_) (fun h1=>?_)<;>try simp only[CT,Z]at h1
 ·refine(zG [] (.mm rfl<|.w 2 (CV 2 (jA (Zv (by omega))) (A2 rfl) rfl)<|.nil) ff rfl fun g5=>nx (E3 2 3 5 rfl) (R3 0 1 2 rfl) ?_)
  refine zW (.m rfl<|.n (xe GG rfl)<|.r 1 (xf 1 Ez rfl zJ rfl)<|.n (D1 Y1 rfl lR (.g HH rfl (.g D7 rfl .nil)))<|.w 0 (xn 0 rfl yL cK rfl)<|.nil) rfl fun g6=>nx (E1 2 rfl) (R2 0 2 rfl)<|De<|D5 (To.freeze 1 (fun _ h=>h) rfl Dv rfl)<|zQ (.cons (.ag 0 (.t rfl) SF rfl rfl rfl)<|.nil) (zM (yD (Dx (.cons (DN 0 2 rfl rfl)<|.cons zL<|.nil))) ?_)
  exact D3 (by unfold P1;rw[if_pos (by simpa using h1)])
 refine yE<|zW (.m rfl<|.n (xe GG rfl)<|.r 1 (xf 1 Ez rfl zJ rfl)<|.n (D1 Y1 rfl lR (.g HH rfl (.g D7 rfl .nil)))<|.w 0 (xn 0 rfl yL cK rfl)<|.nil) rfl fun g7=>nx (E1 2 rfl) (R2 0 2 rfl)<|De<|D5 (To.freeze 1 (fun _ h=>h) rfl Dv rfl)<|zQ (.cons (.ag 0 (.t rfl) SF rfl rfl rfl)<|.nil) (zM (yD (Dx (.cons (DN 0 2 rfl rfl)<|.cons zL<|.nil))) ?_)
 exact D3 (by unfold P1;rw[if_neg (by simpa using h1)])
theorem Wk{z:Int}(z0:0≤z)(z1:z<4294967296):Ct prog 231 [CW (.int .u32 z)] (I6 (bl z.toNat:Int)):=by
 refine Ct.of func231 rfl (by kernel_rfl) rfl fun c0=>zV (.b rfl<|.nil) rfl fun g1=>CY (E2 0 2 rfl)<|Dd<|zV (.m rfl<|.n (xd rfl)<|.nil) rfl fun g2=>CY (E3 0 2 4 rfl)<|zC<|zh rfl (fun h1=>?_) (fun h1=>?_)<;>try simp only[CT,Z]at h1
 ·have e1:=iG h1
  refine zV (.m rfl<|.n (xr rfl (by omega) (ng _))<|.z rfl) rfl fun g3=>CY (E1 0 rfl)<|zC<|(zG [] (.b rfl<|.nil) ff rfl fun g4=>CY (E2 0 2 rfl) ?_)
  refine Dd<|zV (.m rfl<|.n (xd rfl)<|.nil) rfl fun g5=>CY (E3 0 2 8 rfl)<|zC<|zh rfl (fun h2=>?_) (fun h2=>?_)<;>try simp only[CT,Z]at h2
  ·first|have e2:=Vz (z:=z/65536) (by omega)|have e2:=Vz (z:=z) (by omega)
   refine zV (.m rfl<|.n (xr rfl (by omega) (cv _))<|.z rfl) rfl fun g6=>CY (E2 0 2 rfl)<|zC<|(zG [] (.m rfl<|.n (xo rfl (wo (by omega)))<|.z rfl) ff rfl fun g7=>CY (E2 0 2 rfl) ?_)
   refine zW (.mm rfl<|.n (xg DT Pu rfl (gU (by omega) (by omega)))<|.n (FX underlying9 (.k rfl) (.t rfl) (by omega) (Hj (by omega) (by omega)))<|.n (xg Pu KL rfl (FW (by omega) (by omega)))<|.n (xq rfl (Lm (by omega) (by omega) (by omega) (by omega)))<|.z rfl) rfl fun g8=>CY (E1 2 rfl)<|De<|DO rfl<|Dc (by omega)
  refine yE<|zW (.mm rfl<|.n (xg DT Pu rfl (gU (by omega) (by omega)))<|.n (FX underlying9 (.k rfl) (.t rfl) (by omega) (Hj (by omega) (by omega)))<|.n (xg Pu KL rfl (FW (by omega) (by omega)))<|.n (xq rfl (Lm (by omega) (by omega) (by omega) (by omega)))<|.z rfl) rfl fun g9=>CY (E1 2 rfl)<|De<|DO rfl<|Dc (by omega)
 refine yE<|Dd<|zV (.m rfl<|.n (xd rfl)<|.nil) rfl fun g10=>CY (E3 0 2 8 rfl)<|zC<|zh rfl (fun h3=>?_) (fun h3=>?_)<;>try simp only[CT,Z]at h3
 ·first|have e2:=Vz (z:=z/65536) (by omega)|have e2:=Vz (z:=z) (by omega)
  refine zV (.m rfl<|.n (xr rfl (by omega) (cv _))<|.z rfl) rfl fun g11=>CY (E2 0 2 rfl)<|zC<|(zG [] (.m rfl<|.n (xo rfl (wo (by omega)))<|.z rfl) ff rfl fun g12=>CY (E2 0 2 rfl) ?_)
  refine zW (.mm rfl<|.n (xg DT Pu rfl (gU (by omega) (by omega)))<|.n (FX underlying9 (.k rfl) (.t rfl) (by omega) (Hj (by omega) (by omega)))<|.n (xg Pu KL rfl (FW (by omega) (by omega)))<|.n (xq rfl (Lm (by omega) (by omega) (by omega) (by omega)))<|.z rfl) rfl fun g13=>CY (E1 2 rfl)<|De<|DO rfl<|Dc (by omega)
 refine yE<|zW (.mm rfl<|.n (xg DT Pu rfl (gU (by omega) (by omega)))<|.n (FX underlying9 (.k rfl) (.t rfl) (by omega) (Hj (by omega) (by omega)))<|.n (xg Pu KL rfl (FW (by omega) (by omega)))<|.n (xq rfl (Lm (by omega) (by omega) (by omega) (by omega)))<|.z rfl) rfl fun g14=>CY (E1 2 rfl)<|De<|DO rfl<|Dc (by omega)
theorem Oh{m:List Int}{n:Nat}(hm:Fm m)(hlm:m.length≤250000000000)(hn:n≤8000000000000):Ct prog 184 [DP .u32 m,CW (.int .u64 (n:Int))] (DP .u32 (CR (CX m/2^n).toNat)):=by
 refine Ct.of func184 rfl (by kernel_rfl) rfl fun c0=>ER 0 rfl fun hlen=>?_
 have hs32:n % 32<32:=Ap _ (by omega)
 refine zV (.b rfl<|.nil) rfl fun g1=>CY (E2 0 1 rfl)<|zW (.m rfl<|.n (Gq (.t rfl) (.k rfl) (by omega) (mn n (by omega)))<|.n (xg I8 KL rfl (wo (by omega)))<|.z rfl) rfl fun g2=>CY (E3 0 1 5 rfl)<|zW (.m rfl<|.n (Gr (.t rfl) (.k rfl) (by omega) (mv n))<|.z rfl) rfl fun g3=>CY (E3 0 5 6 rfl)<|Dd<|zV (.mm rfl<|.n (xv Da rfl)<|.n (xw rfl)<|.nil) rfl fun g4=>CY (E4 0 5 6 18 rfl)<|zC<|zh rfl (fun h1=>?_) (fun h1=>?_)<;>try simp only[CT,Z]at h1
 ·refine zV (.b rfl<|.nil) rfl fun g5=>CY (E1 4 rfl)<|De<|zD<|zQ (.cons (.tmp (.t rfl))<|.nil) (zM (yD (Dr (mk:=Eh .u32))) ?_)
  exact D3 (by rw[rH hm (by omega),Fg])
 refine yE<|zC<|DS<|zV (.m rfl<|.n (xv Da rfl)<|.m rfl<|.n (Eb (.t rfl) (.t rfl) (wo (by omega)))<|.w 0 (DI (mk:=Eh .u32) 0 0 Da I1 rfl (fun _=>⟨rfl,rfl⟩) (.t rfl) (.t rfl) (by omega) (by omega) (by omega) (by omega) rfl)<|.n (yX rfl rfl)<|.nil) rfl fun g6=>CZ 0 (E4 0 5 6 7 rfl) rfl<|Dd<|zV (.b rfl<|.nil) rfl fun g7=>CZ 0 (E5 0 5 6 7 8 rfl) rfl<|zC<|zT<|D4 (α:=Nat) (fun i=>i≤m.length-n/32) (fun i=>m.length-n/32-i) (fun i restR=>(8,I6 (i:Int))::restR) (fun i restS=>DC (g6 23) (Eh .u32) (Pc m (n/32) (n % 32) i) 256::restS) (ρc:=[(0,_),(5,_),(6,_),(7,_)]) (σc:=[]) 0 (by exact A7 _) (To.pick (fun _=>E5 8 0 5 6 7 rfl) (fun _=> .sub 0 rfl (yQ (by rw[fN,show((m.length:Int) -((n/32:Nat):Int)).toNat=m.length-n/32 by omega]))<|.nil) (ks:=[0]) rfl) (fun i hI=>?_)
 refine zF<|zV (.mm rfl<|.r 0 (EZ 0 Da (.t rfl) rfl)<|.n (xw rfl)<|.nil) rfl fun g8=>CZ 0 (E6 0 5 6 7 8 27 rfl) rfl<|zC<|zh rfl (fun h2=>?_) (fun h2=>?_)<;>try simp only[CT,Z]at h2
 ·have hil:=Pv (m:=m) (w:=n/32) (s:=n % 32) (i:=i) (by omega)
  have gm:=hm.at (k:=(((n/32:Nat):Int)+(i:Int)).toNat) (by omega)
  refine yE<|Dd<|zT<|zV (.mm rfl<|.m rfl<|.n (xq rfl (wo (by omega)))<|.n (xx 0 Da rfl (by omega) (by omega))<|.n (xy Fb rfl)<|.n (xg DT El rfl (DD (by omega) (by omega)))<|.z rfl) rfl fun g9=>CZ 0 (E6 0 5 6 7 8 9 rfl) rfl<|Dd<|zV (.mm rfl<|.n (xq rfl (wo (by omega)))<|.n (xo rfl (wo (by omega)))<|.m rfl<|.n (xv Da rfl)<|.n (xw rfl)<|.nil) rfl fun g10=>CZ 0 (E7 0 5 6 7 8 9 43 rfl) rfl<|zC<|zh rfl (fun h3=>?_) (fun h3=>?_)<;>try simp only[CT,Z]at h3
  ·have gn:=hm.at (k:=(((n/32:Nat):Int)+(i:Int)+1).toNat) (by omega)
   have hz:=wi (m:=m) (w:=n/32) (s:=n % 32) (i:=i)
   refine(zG [] (.mm rfl<|.mm rfl<|.n (xq rfl (wo (by omega)))<|.n (xo rfl (wo (by omega)))<|.n (xx 0 Da rfl (by omega) (by omega))<|.n (xy Fb rfl)<|.n (xg DT El rfl (DD (by omega) (by omega)))<|.n (GD (.t rfl) (.k rfl) (by omega) rfl)<|.n (Ep (by simp) (.t rfl) (.t rfl) (a1l gm gn))<|.z rfl) ff rfl fun g11=>CZ 0 (E6 0 5 6 7 8 9 rfl) rfl ?_)
   refine zC<|(zG [] (.mm rfl<|.mm rfl<|.n (GV (.t rfl) (.t rfl) (by omega) (nk hs32))<|.n (xg El DT rfl (Ls _))<|.r 0 (xz 0 Da rfl (by omega) (by omega))<|.w 0 (xA (mk:=Eh .u32) 0 rfl DY G4 rfl (by omega))<|.nil) ff rfl fun g12=>CZ 0 (E5 0 5 6 7 8 rfl) rfl ?_)
   refine zR<|zC<|(zG [] (.m rfl<|.n (xo rfl (wo (by omega)))<|.z rfl) ff rfl fun g13=>CZ 0 (E5 0 5 6 7 8 rfl) rfl ?_)
   exact yW (i+1) (by omega) (by omega) (To.pick (fun _=>E5 8 0 5 6 7 rfl) (fun _=> .sub 0 rfl (yQ (by rw[←Xf (by omega) hz];rfl))<|.nil) (ks:=[0]) rfl)
  have hz:=wj (m:=m) (w:=n/32) (s:=n % 32) (i:=i) (by omega)
  refine yE<|zC<|(zG [] (.mm rfl<|.mm rfl<|.n (GV (.t rfl) (.t rfl) (by omega) (nk hs32))<|.n (xg El DT rfl (Ls _))<|.r 0 (xz 0 Da rfl (by omega) (by omega))<|.w 0 (xA (mk:=Eh .u32) 0 rfl DY G4 rfl (by omega))<|.nil) ff rfl fun g14=>CZ 0 (E5 0 5 6 7 8 rfl) rfl ?_)
  refine zR<|zC<|(zG [] (.m rfl<|.n (xo rfl (wo (by omega)))<|.z rfl) ff rfl fun g15=>CZ 0 (E5 0 5 6 7 8 rfl) rfl ?_)
  exact yW (i+1) (by omega) (by omega) (To.pick (fun _=>E5 8 0 5 6 7 rfl) (fun _=> .sub 0 rfl (yQ (by rw[←Xf (by omega) hz];rfl))<|.nil) (ks:=[0]) rfl)
 have hil:=Pv (m:=m) (w:=n/32) (s:=n % 32) (i:=i) (by omega)
 have hie:i=m.length-n/32:=by omega
 refine D6<|zE<|zE<|zS<|zC<|yN (To.freeze 0 (fun _ h=>h) rfl Dz rfl)<|zV (.m rfl<|.n (zP (HI (mH _ _ _ _)) ⟨(Lk.sub (Ed 0 rfl) (.t rfl)),trivial⟩)<|.z rfl) rfl fun g16=>CY (E1 4 rfl)<|De<|DO rfl<|D3 (congrArg (fun z=>DP .u32 (CR z.toNat)) (rI hm (by omega) hie))
theorem qe{x:Int}(hx:Kk x):Ct prog 185 [MB x] (I6 (bl x.natAbs:Int)):=by
 refine Ct.of func185 rfl (by kernel_rfl) rfl fun c0=>?_
 have hl:(CR x.natAbs).length≤250000000000:=Ov hx
 refine zV (.b rfl<|.nil) rfl fun g1=>CY (E1 0 rfl)<|Dd<|zV (.m rfl<|.n (xE rfl)<|.n (xF DV rfl)<|.n (xy FF rfl)<|.n (xv Da rfl)<|.n (xd rfl)<|.nil) rfl fun g2=>CY (E2 0 8 rfl)<|zC<|zh rfl (fun h1=>?_) (fun h1=>?_)<;>try simp only[CT,Z]at h1
 ·refine zV (.b rfl<|.nil) rfl fun g3=>CY (E1 2 rfl)<|De<|zD<|DO rfl<|Dc (iH (by have:=h1;omega))
 have gd:=(D8 x.natAbs).at (k:=((CR x.natAbs).length-1:Int).toNat) (by have:=h1;omega)
 have hbb:=di (n:=x.natAbs) (by have:=h1;omega)
 have hb4:=QI (t:=((CR x.natAbs).getD ((CR x.natAbs).length-1:Int).toNat 0).toNat) (k:=32) (by show _<4294967296;omega)
 refine yE<|zC<|zF (zG [[],[0],[0,1],[0,1,2],[0,1,2,3],[0,1,2,3,4],[0,1,2,3,4,5],[],[7],[7,8],[7,8,9],[],[11],[11,12],[11,12,13],[11,12,13,14],[11,12,13,14,15],[7,8,9,10,11,12,13,14,15,16],[7,8,9,10,11,12,13,14,15,16,17],[7,8,9,10,11,12,13,14,15,16,17,18],[0,1,2,3,4,5,6,7,8,9,10,11,12,13,14,15,16,17,18,19],[0,1,2,3,4,5,6,7,8,9,10,11,12,13,14,15,16,17,18,19,20]] (.m rfl<|.n (xE rfl)<|.n (xF DV rfl)<|.n (xy FF rfl)<|.n (xv Da rfl)<|.n (xh rfl (wo (by omega)))<|.n (Fi (.k rfl) (.t rfl) (wo (by omega)))<|.m rfl<|.n (xE rfl)<|.n (xF DV rfl)<|.n (xy FF rfl)<|.m rfl<|.n (xE rfl)<|.n (xF DV rfl)<|.n (xy FF rfl)<|.n (xv Da rfl)<|.n (xh rfl (wo (by omega)))<|.n (xx 0 Da rfl (by omega) (by omega))<|.n (xy Fb rfl)<|.n (zP (Wk gd.1 gd.2) (A1 rfl))<|.n (xq rfl (wo (by omega)))<|.z rfl) (fun _=>Di) rfl fun g4=>CY (E1 2 rfl) ?_)
 refine De<|DO rfl<|Dc hbb
theorem vv{x:Nat}(hx:Kk (x:Int)):Ct prog 185 [MB (x:Int)] (I6 (bl x:Int)):=qe hx
theorem qf{u:Value}{q0 q1:SP}{x y:Int}(hx:Kk x)(hy:Kk y):En prog 181 [DW u 0,MB x,MB y] (Dh u [q0,q1] 177) (DW u 0) (Dh u (Ks (x-y)) 177):=by
 refine En.of func181 rfl (by kernel_rfl) rfl (CU) fun c0 ob hr0=>zV (.b rfl<|.nil) rfl fun g1=>CZ 0 (E3 0 1 2 rfl) rfl<|zW (.mm rfl<|.m rfl<|.w 0 (CV 0 (qg hx hy) ⟨(.t rfl),(.t rfl),(.t rfl),(.k rfl),trivial⟩ rfl)<|.z rfl) rfl fun g2=>CZ 0 (E1 6 rfl) rfl<|De<|D5 (To.res 0 (r':=Dh u (Ks (x-y)) 177) rfl (yQ (by rw[show x+Ds true 1*y=x-y by simp[Ds];omega])) rfl)<|Db 0 hr0 (CU) rfl (.cons (.tmp (.t rfl))<|.nil) (zM (yD zL) ?_)
 exact zL
theorem qC{z:Int}(z0:0≤z)(z1:z<4294967296):Ct prog 236 [CW (.int .u32 z)] (I6 (32-(bl z.toNat:Int))):=by
 refine Ct.of func236 rfl (by kernel_rfl) rfl fun c0=>?_
 have hbl:=sZ z0 z1
 refine zV (.b rfl<|.nil) rfl fun g1=>CY (E1 0 rfl)<|zW (.m rfl<|.n (zP (Wk (by omega) (by omega)) (A1 rfl))<|.n (Eb (.k rfl) (.t rfl) (wo (by omega)))<|.z rfl) rfl fun g2=>CY (E1 2 rfl)<|De<|DO rfl<|zL
theorem nf{m:List Int}{d:Int}(hm:Fm m)(hlm:m.length≤250000000000)(d0:0<d)(d1:d<4294967296):Ct prog 235 [DP .u32 m,CW (.int .u32 d)] (EP [DP .u32 (CR (CX m/d).toNat),CW (.int .u32 (CX m % d))]):=by
 refine Ct.of func235 rfl (by kernel_rfl) rfl fun c0=>ER 0 rfl fun hlen=>zV (.b rfl<|.b rfl<|.nil) rfl fun g1=>CY (E2 0 1 rfl)<|zC<|DS<|zV (.m rfl<|.n (xv Da rfl)<|.w 0 (DI (mk:=Eh .u32) 0 0 Da I1 rfl (fun _=>⟨rfl,rfl⟩) (.t rfl) (.t rfl) (by omega) (by omega) (by omega) (by omega) rfl)<|.n (yX rfl rfl)<|.nil) rfl fun g2=>CZ 0 (E3 0 1 6 rfl) rfl<|zW (.b rfl<|.nil) rfl fun g3=>CZ 0 (E4 0 1 6 7 rfl) rfl<|Dd<|zV (.m rfl<|.n (xv Da rfl)<|.n (xh rfl (wo (by omega)))<|.z rfl) rfl fun g4=>CZ 0 (E5 0 1 6 7 8 rfl) rfl<|zC<|zT<|D4 (α:=Nat×List Int×Int) (fun x=>cY m x.2.1 d x.1 x.2.2) (fun x=>x.1) (fun x restR=>(8,I6 ((x.1:Int) -1))::(7,CW (.int .u64 x.2.2))::restR) (fun x restS=>DC (g2 12) (Eh .u32) x.2.1 256::restS) (ρc:=[(0,_),(1,_),(6,_)]) (σc:=[]) (m.length,List.replicate m.length 0,0) (by exact nd d0) (To.pick (fun _=>E5 8 7 0 1 6 rfl) (fun _=> .sub 0 rfl (yQ (by rw[show((m.length:Int)).toNat=m.length by omega]))<|.nil) (ks:=[0]) rfl) (fun x hI=>?_)
 obtain⟨k,l,r⟩:=x
 try simp only at hI
 show J _ _ ((8,I6 ((k:Int) -1))::(7,CW (.int .u64 r))::_) (DC (g2 12) (Eh .u32) l 256::_) _ _
 refine zF<|zV (.m rfl<|.n (xd rfl)<|.nil) rfl fun g5=>CZ 0 (E6 0 1 6 7 8 17 rfl) rfl<|zC<|zh rfl (fun h1=>?_) (fun h1=>?_)<;>try simp only[CT,Z]at h1
 ·obtain⟨j,rfl⟩: ∃ j,k=j+1:=⟨k-1,by omega⟩
  have hIk:=hI.hk
  have hIl:=hI.hl
  have hIr:=hI.hr
  have gm:=hm.at (k:=(((j+1:Nat):Int) -1).toNat) (by omega)
  obtain⟨t,ht⟩: ∃ t,t=r*4294967296+m.getD j 0:=⟨_,rfl⟩
  have ej:(((j+1:Nat):Int) -1).toNat=j:=by omega
  have htm:r*4294967296+(m.getD (((j+1:Nat):Int) -1).toNat 0)=t:=by rw[ej];exact ht.symm
  have hS:=nc hm d0 hI ht
  refine yE<|Dd<|zT<|zV (.m rfl<|.n (GD (.t rfl) (.k rfl) (by omega) rfl)<|.mm rfl<|.n (xx 0 Da rfl (by omega) (by omega))<|.n (xy Fb rfl)<|.n (xg DT El rfl (DD (by omega) (by omega)))<|.n (Ep (by simp) (.t rfl) (.t rfl) (q8 (by omega) gm))<|.z rfl) rfl fun g6=>CZ 0 (E5 0 1 6 8 9 rfl) rfl<|zC ?_
  rw[htm]
  refine zV (.mm rfl<|.mm rfl<|.n (xg DT El rfl (DD (by omega) (by omega)))<|.n (Gq (.t rfl) (.t rfl) (by omega) (RP hS.2.2.2.1 (by omega) d0))<|.n (xg El DT rfl (I0 hS.2.1 hS.2.2.1))<|.r 0 (xz 0 Da rfl (by omega) (by omega))<|.w 0 (xA (mk:=Eh .u32) 0 rfl DY G4 rfl (by omega))<|.nil) rfl fun g7=>CZ 0 (E5 0 1 6 8 9 rfl) rfl<|zC<|(zG [] (.mm rfl<|.n (xg DT El rfl (DD (by omega) (by omega)))<|.n (Gr (.t rfl) (.t rfl) (by omega) (tF hS.2.2.2.1))<|.z rfl) ff rfl fun g8=>CZ 0 (E5 0 1 6 7 8 rfl) rfl ?_)
  refine zR<|zC<|(zG [] (.m rfl<|.n (xh rfl (wo (by omega)))<|.z rfl) ff rfl fun g9=>CZ 0 (E5 0 1 6 7 8 rfl) rfl ?_)
  exact yW (j,l.set (((j+1:Nat):Int) -1).toNat (t/d),t % d) (by exact(by show cY m (l.set (((j+1:Nat):Int) -1).toNat (t/d)) d j (t % d);rw[ej];exact hS.1)) (by show j<j+1;omega) (Es (fun _=> .sub (t:=8) rfl (yO (by exact congrArg (fun z=>I6 z) (by omega)))<|E4 7 0 1 6 rfl) fun _=>R1 0 rfl)
 obtain rfl:k=0:=by omega
 obtain⟨hq,hr⟩:=nb d0 hI
 have hIr:=hI.hr
 have hdg:=hI.hd
 refine D6<|zE<|zE<|zS<|zC<|yN (To.freeze 0 (fun _ h=>h) rfl Dz rfl)<|zV (.m rfl<|.n (zP (HI hdg) ⟨(Lk.sub (Ed 0 rfl) (.t rfl)),trivial⟩)<|.m rfl<|.n (xg El DT rfl (I0 (by omega) (by omega)))<|.a rfl<|.z rfl) rfl fun g10=>CY (E2 4 5 rfl)<|De<|Lt rfl<|D3 (by rw[←hq,←hr])
theorem Tt{X Y a b:Nat}(hX:(CR X).length≤100000000000)(hY:(CR Y).length≤100000000000)(ha:a<18446744073709551616)(hb:b<18446744073709551616)(hle:b*Y≤a*X):Ct prog 256 [DP .u32 (CR X),CW (.int .u64 (a:Int)),DP .u32 (CR Y),CW (.int .u64 (b:Int))] (DP .u32 (CR (a*X-b*Y))):=by
 refine Ct.of func256 rfl (by kernel_rfl) rfl fun c0=>?_
 have la:=YS ha
 have lb:=YS hb
 refine zV (.b rfl<|.nil) rfl fun g1=>CY (E4 0 1 2 3 rfl)<|zW (.mm rfl<|.n (zP (OD (by omega)) (A1 rfl))<|.n (zP (HW (D8 _) (D8 _) (by omega) (by omega)) (A2 rfl))<|.mm rfl<|.n (zP (OD (by omega)) (A1 rfl))<|.n (zP (HW (D8 _) (D8 _) (by omega) (by omega)) (A2 rfl))<|.n (zP (Rw (D8 _) (D8 _) (cF la hX) (cF lb hY) (nB hle).1 (nB hle).2) (A2 rfl))<|.z rfl) rfl fun g2=>CY (E1 8 rfl)<|De<|DO rfl<|D3 (congrArg (fun z=>DP .u32 (CR z)) (sg hle))
theorem bd{u:Value}{us d:List Int}{j:Nat}{g:Int}(hu:Fm us)(hd:Fm d)(hj:j+d.length<us.length)(hg0:0≤g)(hg1:g≤4294967296)(h9:us.length≤750000000000):En prog 238 [CW u,DP .u32 d,I6 (j:Int),CW (.int .u64 g)] (DC u (Eh .u32) us 256) (CW (.bool (decide (LI us d j g<0)))) (DC u (Eh .u32) (Sm us d j g) 256):=by
 refine En.of func238 rfl (by kernel_rfl) rfl (FU (Gv (by omega)).symm) fun c0 ob hr0=>ER 1 rfl fun hlen=>zV (.b rfl<|.nil) rfl fun g1=>CZ 0 (E4 0 1 2 3 rfl) rfl<|zW (.b rfl<|.nil) rfl fun g2=>CZ 0 (E5 0 1 2 3 9 rfl) rfl<|zW (.b rfl<|.nil) rfl fun g3=>CZ 0 (E6 0 1 2 3 9 10 rfl) rfl<|Dd<|zV (.b rfl<|.nil) rfl fun g4=>CZ 0 (E7 0 1 2 3 9 10 11 rfl) rfl<|zC<|zT<|D4 (α:=Nat×List Int×Int×Int) (fun x=>TB us d x.2.1 j g x.1 x.2.2.1 x.2.2.2) (fun x=>d.length-x.1) (fun x restR=>(11,I6 (x.1:Int))::(9,CW (.int .u64 x.2.2.1))::(10,CW (.int .u64 x.2.2.2))::restR) (fun x restS=>DC u (Eh .u32) x.2.1 256::restS) (ρc:=[(0,_),(1,_),(2,_),(3,_)]) (σc:=[]) (0,us,0,0) (by exact kh hu) (Es (fun _=>E7 11 9 10 0 1 2 3 rfl) fun _=>R1 0 rfl) (fun x hI=>?_)
 obtain⟨k,l,c,b⟩:=x
 try simp only at hI
 show J _ _ ((11,I6 (k:Int))::(9,CW (.int .u64 c))::(10,CW (.int .u64 b))::_) (DC u (Eh .u32) l 256::_) _ _
 refine zF<|zV (.mm rfl<|.n (xv Da rfl)<|.n (xw rfl)<|.nil) rfl fun g5=>CZ 0 (E8 0 1 2 3 9 10 11 20 rfl) rfl<|zC<|zh rfl (fun h1=>?_) (fun h1=>?_)<;>try simp only[CT,Z]at h1
 ·have hIl:=hI.hl
  have hIc:=hI.hc
  have hIb:=hI.hb
  have hIi:=hI.hi
  have gd:=hd.at (k:=((k:Nat):Int).toNat) (by omega)
  have gl:=hI.hd.at (k:=((j:Int)+(k:Int)).toNat) (by omega)
  have gm:=qp hg0 hg1 gd
  obtain⟨p,hp⟩: ∃ p,p=g*d.getD k 0+c:=⟨_,rfl⟩
  have hpe:g*(d.getD ((k:Nat):Int).toNat 0)+c=p:=hp.symm
  have hp0:0≤p∧p<18446744073709551616:=by rw[←hpe];omega
  obtain⟨y,hy⟩: ∃ y,y=p % 4294967296+b:=⟨_,rfl⟩
  have hy0:0≤y∧y≤4294967296:=by omega
  have ejk:((j:Int)+(k:Int)).toNat=j+k:=by omega
  refine yE<|Dd<|zT<|zV (.mm rfl<|.m rfl<|.n (xx 0 Da rfl (by omega) (by omega))<|.n (xy Fb rfl)<|.n (xg DT El rfl (DD (by omega) (by omega)))<|.n (xu rfl (DD (by omega) (by omega)))<|.m rfl<|.n (xq rfl (DD (by omega) (by omega)))<|.z rfl) rfl fun g6=>CZ 0 (E7 0 1 2 3 10 11 12 rfl) rfl<|zC ?_
  rw[hpe]
  refine zV (.m rfl<|.n (xr rfl (by omega) (IS _))<|.z rfl) rfl fun g7=>CZ 0 (E8 0 1 2 3 9 10 11 12 rfl) rfl<|zW (.m rfl<|.n (Ep (by simp) (.t rfl) (.k rfl) (SH hp0.1 hp0.2))<|.m rfl<|.n (xq rfl (DD (by omega) (by omega)))<|.z rfl) rfl fun g8=>CZ 0 (E7 0 1 2 3 9 11 13 rfl) rfl<|zC ?_
  rw[show p % 4294967296+b=y from hy.symm]
  refine zV (.mm rfl<|.m rfl<|.n (xq rfl (wo (by omega)))<|.r 0 (xz 0 Da rfl (by omega) (by omega))<|.r 0 (DH 0 0 Fb (.t rfl) rfl (by omega))<|.n (xg DT El rfl (DD (by omega) (by omega)))<|.z rfl) rfl fun g9=>CZ 0 (E8 0 1 2 3 9 11 13 14 rfl) rfl<|zW (.mm rfl<|.n (xw rfl)<|.nil) rfl fun g10=>CZ 0 (E9 0 1 2 3 9 11 13 14 47 rfl) rfl<|zC<|zh rfl (fun h2=>?_) (fun h2=>?_)<;>try simp only[CT,Z]at h2
  ·refine zV (.mm rfl<|.m rfl<|.n (xq rfl (wo (by omega)))<|.m rfl<|.n (xo rfl (DD (by omega) (by omega)))<|.m rfl<|.n (Eb (.t rfl) (.t rfl) (DD (by omega) (by omega)))<|.n (xg El DT rfl (I0 (by omega) (by omega)))<|.r 0 (xz 0 Da rfl (by omega) (by omega))<|.w 0 (xA (mk:=Eh .u32) 0 rfl DY G4 rfl (by omega))<|.nil) rfl fun g11=>CZ 0 (E6 0 1 2 3 9 11 rfl) rfl<|zC<|(zG [] (.b rfl<|.nil) ff rfl fun g12=>CZ 0 (E7 0 1 2 3 9 10 11 rfl) rfl ?_)
   refine zR<|zC<|(zG [] (.m rfl<|.n (xo rfl (wo (by omega)))<|.z rfl) ff rfl fun g13=>CZ 0 (E7 0 1 2 3 9 10 11 rfl) rfl ?_)
   exact yW (k+1,l.set ((j:Int)+(k:Int)).toNat ((l.getD ((j:Int)+(k:Int)).toNat 0)+4294967296-y),p/4294967296,1) (by have hxy:=h2;rw[ejk]at gl hxy;rw[ejk];first|exact(show TB us d (l.set (j+k) (l.getD (j+k) 0+4294967296-y)) j g (k+1) (p/4294967296) 1 from NV hd ⟨hg0,hg1⟩ hI (by omega) hj hp hy (.inr rfl) (by omega) ⟨by omega,by omega⟩)|exact(show TB us d (l.set (j+k) (l.getD (j+k) 0-y)) j g (k+1) (p/4294967296) 0 from NV hd ⟨hg0,hg1⟩ hI (by omega) hj hp hy (.inl rfl) (by omega) ⟨by omega,by omega⟩)) (by show d.length-(_+1)<_;omega) (Es (fun _=>E7 11 9 10 0 1 2 3 rfl) fun _=>R1 0 rfl)
  refine zV (.mm rfl<|.m rfl<|.n (xq rfl (wo (by omega)))<|.mm rfl<|.n (Eb (.t rfl) (.t rfl) (DD (by omega) (by omega)))<|.n (xg El DT rfl (I0 (by omega) (by omega)))<|.r 0 (xz 0 Da rfl (by omega) (by omega))<|.w 0 (xA (mk:=Eh .u32) 0 rfl DY G4 rfl (by omega))<|.nil) rfl fun g14=>CZ 0 (E6 0 1 2 3 9 11 rfl) rfl<|zC<|(zG [] (.b rfl<|.nil) ff rfl fun g15=>CZ 0 (E7 0 1 2 3 9 10 11 rfl) rfl ?_)
  refine zR<|zC<|(zG [] (.m rfl<|.n (xo rfl (wo (by omega)))<|.z rfl) ff rfl fun g16=>CZ 0 (E7 0 1 2 3 9 10 11 rfl) rfl ?_)
  exact yW (k+1,l.set ((j:Int)+(k:Int)).toNat ((l.getD ((j:Int)+(k:Int)).toNat 0) -y),p/4294967296,0) (by have hxy:=h2;rw[ejk]at gl hxy;rw[ejk];first|exact(show TB us d (l.set (j+k) (l.getD (j+k) 0+4294967296-y)) j g (k+1) (p/4294967296) 1 from NV hd ⟨hg0,hg1⟩ hI (by omega) hj hp hy (.inr rfl) (by omega) ⟨by omega,by omega⟩)|exact(show TB us d (l.set (j+k) (l.getD (j+k) 0-y)) j g (k+1) (p/4294967296) 0 from NV hd ⟨hg0,hg1⟩ hI (by omega) hj hp hy (.inl rfl) (by omega) ⟨by omega,by omega⟩)) (by show d.length-(_+1)<_;omega) (Es (fun _=>E7 11 9 10 0 1 2 3 rfl) fun _=>R1 0 rfl)
 have hIi:=hI.hi
 obtain rfl:k=d.length:=by omega
 have hIl:=hI.hl
 have hIc:=hI.hc
 have hIb:=hI.hb
 have gl:=hI.hd.at (k:=((j:Int)+(d.length:Int)).toNat) (by omega)
 have ejn:((j:Int)+(d.length:Int)).toNat=j+d.length:=by omega
 obtain⟨hdl,hds⟩:=kf hu hI hj (x:=(l.getD ((j:Int)+(d.length:Int)).toNat 0)) (y:=c+b) (by rw[ejn]) rfl
 refine D6<|zE<|zE<|zS<|zW (.mm rfl<|.m rfl<|.n (xv Da rfl)<|.n (xq rfl (wo (by omega)))<|.r 0 (xz 0 Da rfl (by omega) (by omega))<|.r 0 (DH 0 0 Fb (.t rfl) rfl (by omega))<|.n (xg DT El rfl (DD (by omega) (by omega)))<|.z rfl) rfl fun g17=>CZ 0 (E6 0 1 2 9 10 15 rfl) rfl<|zW (.mm rfl<|.n (xq rfl (DD (by omega) (by omega)))<|.z rfl) rfl fun g18=>CZ 0 (E5 0 1 2 15 16 rfl) rfl<|zW (.mm rfl<|.m rfl<|.n (xv Da rfl)<|.n (xq rfl (wo (by omega)))<|.mm rfl<|.n (Eb (.t rfl) (.t rfl) rfl)<|.n (xg El DT rfl (a0A _))<|.r 0 (xz 0 Da rfl (by omega) (by omega))<|.w 0 (xA (mk:=Eh .u32) 0 rfl DY G4 rfl (by omega))<|.nil) rfl fun g19=>CZ 0 (E2 15 16 rfl) rfl<|zW (.mm rfl<|.n (xw rfl)<|.z rfl) rfl fun g20=>CZ 0 (E1 8 rfl) rfl<|De<|D5 (To.res 0 (r':=DC u (Eh .u32) (Sm us d j g) 256) rfl (yQ (by rw[←hdl,ejn])) rfl)<|Db 0 hr0 (FU (Gv (by omega)).symm) rfl (.cons (.tmp (.t rfl))<|.nil) (zM (yD zL) ?_)
 exact Ia (by exact decide_eq_decide.2 hds)
theorem bB{u:Value}{us d:List Int}{j:Nat}(hu:Fm us)(hd:Fm d)(hj:j+d.length<us.length)(h9:us.length≤750000000000):En prog 239 [CW u,DP .u32 d,I6 (j:Int)] (DC u (Eh .u32) us 256) (Ge) (DC u (Eh .u32) (ez us d j) 256):=by
 refine En.of func239 rfl (by kernel_rfl) rfl (FU (Gv (by omega)).symm) fun c0 ob hr0=>ER 1 rfl fun hlen=>zV (.b rfl<|.nil) rfl fun g1=>CZ 0 (E4 0 1 2 6 rfl) rfl<|Dd<|zV (.b rfl<|.nil) rfl fun g2=>CZ 0 (E5 0 1 2 6 7 rfl) rfl<|zC<|zT<|D4 (α:=Nat×List Int×Int) (fun x=>ib us d x.2.1 j x.1 x.2.2) (fun x=>d.length-x.1) (fun x restR=>(7,I6 (x.1:Int))::(6,CW (.int .u64 x.2.2))::restR) (fun x restS=>DC u (Eh .u32) x.2.1 256::restS) (ρc:=[(0,_),(1,_),(2,_)]) (σc:=[]) (0,us,0) (by exact kV hu) (Es (fun _=>E5 7 6 0 1 2 rfl) fun _=>R1 0 rfl) (fun x hI=>?_)
 obtain⟨k,l,c⟩:=x
 try simp only at hI
 show J _ _ ((7,I6 (k:Int))::(6,CW (.int .u64 c))::_) (DC u (Eh .u32) l 256::_) _ _
 refine zF<|zV (.mm rfl<|.n (xv Da rfl)<|.n (xw rfl)<|.nil) rfl fun g3=>CZ 0 (E6 0 1 2 6 7 12 rfl) rfl<|zC<|zh rfl (fun h1=>?_) (fun h1=>?_)<;>try simp only[CT,Z]at h1
 ·have hIl:=hI.hl
  have hIc:=hI.hc
  have hIi:=hI.hi
  have gd:=hd.at (k:=((k:Nat):Int).toNat) (by omega)
  have gl:=hI.hd.at (k:=((j:Int)+(k:Int)).toNat) (by omega)
  obtain⟨t,ht⟩: ∃ t,t=l.getD (j+k) 0+d.getD k 0+c:=⟨_,rfl⟩
  have ejk:((j:Int)+(k:Int)).toNat=j+k:=by omega
  have hte:(l.getD ((j:Int)+(k:Int)).toNat 0)+(d.getD ((k:Nat):Int).toNat 0)+c=t:=by rw[ejk];exact ht.symm
  refine yE<|Dd<|zT<|zF (zG [[],[],[],[1,2],[0,1,2,3],[0,1,2,3,4],[0,1,2,3,4,5],[],[],[7,8],[7,8,9],[7,8,9,10],[0,1,2,3,4,5,6,7,8,9,10,11],[],[0,1,2,3,4,5,6,7,8,9,10,11,12,13],[0,1,2,3,4,5,6,7,8,9,10,11,12,13,14]] (.mm rfl<|.m rfl<|.n (xq rfl (wo (by omega)))<|.r 0 (xz 0 Da rfl (by omega) (by omega))<|.r 0 (DH 0 0 Fb (.t rfl) rfl (by omega))<|.n (xg DT El rfl (DD (by omega) (by omega)))<|.mm rfl<|.n (xx 0 Da rfl (by omega) (by omega))<|.n (xy Fb rfl)<|.n (xg DT El rfl (DD (by omega) (by omega)))<|.n (xq rfl (DD (by omega) (by omega)))<|.m rfl<|.n (xq rfl (DD (by omega) (by omega)))<|.z rfl) (fun _=>Di) rfl fun g4=>CZ 0 (E5 0 1 2 7 8 rfl) rfl ?_)
  refine zC ?_
  rw[hte]
  refine zV (.mm rfl<|.m rfl<|.n (xq rfl (wo (by omega)))<|.m rfl<|.n (xg El DT rfl (Ls _))<|.r 0 (xz 0 Da rfl (by omega) (by omega))<|.w 0 (xA (mk:=Eh .u32) 0 rfl DY G4 rfl (by omega))<|.nil) rfl fun g5=>CZ 0 (E5 0 1 2 7 8 rfl) rfl<|zC<|(zG [] (.m rfl<|.n (xr rfl (by omega) (IS _))<|.z rfl) ff rfl fun g6=>CZ 0 (E5 0 1 2 6 7 rfl) rfl ?_)
  refine zR<|zC<|(zG [] (.m rfl<|.n (xo rfl (wo (by omega)))<|.z rfl) ff rfl fun g7=>CZ 0 (E5 0 1 2 6 7 rfl) rfl ?_)
  exact yW (k+1,l.set ((j:Int)+(k:Int)).toNat (t % 4294967296),t/4294967296) (by rw[ejk];exact kU hd hI (by omega) hj ht) (by show d.length-(_+1)<_;omega) (Es (fun _=>E5 7 6 0 1 2 rfl) fun _=>R1 0 rfl)
 have hIi:=hI.hi
 obtain rfl:k=d.length:=by omega
 have hIl:=hI.hl
 have hIc:=hI.hc
 have gl:=hI.hd.at (k:=((j:Int)+(d.length:Int)).toNat) (by omega)
 have ejn:((j:Int)+(d.length:Int)).toNat=j+d.length:=by omega
 have hdl:=kT hu hI hj
 refine D6<|zE<|zE<|zS<|zC<|(zG [] (.mm rfl<|.m rfl<|.n (xv Da rfl)<|.n (xq rfl (wo (by omega)))<|.r 0 (xz 0 Da rfl (by omega) (by omega))<|.r 0 (DH 0 0 Fb (.t rfl) rfl (by omega))<|.m rfl<|.n (xg El DT rfl (I0 (by omega) (by omega)))<|.n (xq rfl (Ls _))<|.r 0 (xz 0 Da rfl (by omega) (by omega))<|.w 0 (xA (mk:=Eh .u32) 0 rfl DY G4 rfl (by omega))<|.nil) ff rfl fun g8=>CZ 0 (E0) rfl ?_)
 refine IU<|D5 (To.res 0 (r':=DC u (Eh .u32) (ez us d j) 256) rfl (yQ (by rw[←hdl,ejn])) rfl)<|Db 0 hr0 (FU (Gv (by omega)).symm) rfl (.nil) (zM zL ?_)
 exact HS
theorem pf{u:Value}{l:List Int}(hd:Fm l)(hl9:l.length≤750000000000):En prog 189 [CW u] (DC u (Eh .u32) l 256) (CW (J0 u (CR (CX l).toNat).length)) (DC (J0 u (CR (CX l).toNat).length) (Eh .u32) (CR (CX l).toNat) 256):=by
 refine En.of func189 rfl (by kernel_rfl) rfl (Q8) fun c0 ob hr0=>Qy 0 rfl dG fun hcu=>zV (.b rfl<|.nil) rfl fun g1=>CZ 0 (E1 0 rfl) rfl<|Dd<|zT<|D4 (α:=Nat) (fun k=>k≤l.length∧CX (l.take k)=CX l) (fun k=>k) (fun k restR=>(0,CW (J0 u k))::restR) (fun k restS=>DC (J0 u k) (Eh .u32) (l.take k) 256::restS) (ρc:=[]) (σc:=[]) l.length (by exact⟨A5 _,by rw[AI]⟩) (To.pick (fun _=> .sub (t:=0) rfl (yO (by rw[hcu]))<|.nil) (fun _=> .sub 0 rfl (yQ (by rw[hcu,AI]))<|.nil) (ks:=[0]) rfl) (fun k hI=>?_)
 obtain⟨hk,hm⟩:=hI
 have hkl:(l.take k).length=k:=by rw[A9];omega
 refine zF<|zV (.m rfl<|.r 0 (EZ 0 Da (.t rfl) rfl)<|.n (xd rfl)<|.m rfl<|.n (gu rfl (fun hC=>(xB rfl)))<|.n (gu rfl (fun hC=>(xB rfl)))<|.r 0 (gu rfl (fun hC=>(EZ 0 Da (.w rfl hC) rfl)))<|.n (gu rfl (fun hC=>(Eb (.w rfl hC) (.k rfl) (wo (by omega)))))<|.r 0 (gu rfl (fun hC=>(yH 0 Da (.w rfl hC) (.w rfl hC) rfl (by simp only[CT,Ao,decide_eq_true_eq,beq_iff_eq]at hC;omega) (by omega))))<|.r 0 (gu rfl (fun hC=>(DH 0 0 Fb (.w rfl hC) rfl (by simp only[CT,Ao,decide_eq_true_eq,beq_iff_eq]at hC;omega))))<|.n (gu rfl (fun hC=>(oc rfl (.w rfl hC) (.k rfl) rfl)))<|.n (EO (.t rfl) (fun h2=>(.w rfl h2)))<|.nil) rfl fun g2=>CZ 0 (E2 0 14 rfl) rfl<|zC<|zh rfl (fun h1=>?_) (fun h1=>?_)<;>have h1':=h1<;>try simp only[CT,Z]at h1
 ·have hca:=SN hk h1'
  refine yE<|zC<|zT<|(zG [] (.mm rfl<|.r 0 (EZ 0 Da (.t rfl) rfl)<|.n (xh rfl (wo (by omega)))<|.r 0 (Ke 0 Da (.t rfl) (.t rfl) rfl (by omega) (by omega))<|.z rfl) ff rfl fun g3=>CZ 0 (E1 0 rfl) rfl ?_)
  refine zR<|yW (k-1) (by exact⟨by omega,av hk hca.1 hca.2 hm⟩) (by omega) (To.pick (fun _=> .sub (t:=0) rfl (yO (by exact congrArg CW (by rw[VG];congr 1;omega)))<|.nil) (fun _=> .sub 0 rfl (ny (by omega))<|.nil) (ks:=[0]) rfl)
 refine D6<|zE<|zE<|zS<|zW (.m rfl<|.z rfl) rfl fun g4=>CZ 0 (E1 2 rfl) rfl<|De<|D5 (To.res 0 (r':=DC (J0 u (CR (CX l).toNat).length) (Eh .u32) (CR (CX l).toNat) 256) rfl (yQ (by rw[←QQ hd hk hm (QR hk h1'),hkl])) rfl)<|Db 0 hr0 (Q8) rfl (.cons (.tmp (.t rfl))<|.nil) (zM (yD zL) ?_)
 exact D3 (by rw[←QQ hd hk hm (QR hk h1'),hkl])
theorem jX{m:List Int}{n:Nat}(hm:Fm m)(hlm:m.length≤250000000000)(hn:n≤8000000000000):OH prog 237 [DP .u32 m,CW (.int .u64 (n:Int))] (id) (fun u=>CW u) (fun u=>DC u (Eh .u32) (CR (CX m*2^n).toNat) 256):=by
 refine OH.of func237 rfl (by kernel_rfl) rfl fun c0=>ER 0 rfl fun hlen=>?_
 have hs32:n % 32<32:=Ap _ (by omega)
 obtain⟨hp1,hp2,hp3,hp4⟩:=Nl hs32
 refine zV (.b rfl<|.nil) rfl fun g1=>CY (E2 0 1 rfl)<|Dd<|zV (.m rfl<|.n (xv Da rfl)<|.n (xd rfl)<|.nil) rfl fun g2=>CY (E3 0 1 12 rfl)<|zC<|zh rfl (fun h1=>?_) (fun h1=>?_)<;>try simp only[CT,Z]at h1
 ·refine zV (.b rfl<|.nil) rfl fun g3=>CY (E1 4 rfl)<|De<|zD ?_
  have hm0:m=[]:=BC.1 (by omega)
  refine D5 (To.emps 1)<|D5 (To.res 0 (r':=DC (.slice none 0 0) (Eh .u32) (CR (CX m*2^n).toNat) 256) rfl (by rw[hm0,show(CX []*2^n).toNat=0 by simp[CX],Fg];exact FA) rfl)<|HD (u:=(.slice none 0 0)) 0 rfl rfl (.tmp (.t rfl)) (fun _ _ h=>h.1)<|zL
 refine yE<|zW (.m rfl<|.n (Gq (.t rfl) (.k rfl) (by omega) (mn n (by omega)))<|.n (xg I8 KL rfl (wo (by omega)))<|.z rfl) rfl fun g4=>CY (E3 0 1 5 rfl)<|zW (.m rfl<|.n (Gr (.t rfl) (.k rfl) (by omega) (mv n))<|.z rfl) rfl fun g5=>CY (E3 0 5 6 rfl)<|zC<|DS<|zV (.mm rfl<|.n (xv Da rfl)<|.n (xq rfl (wo (by omega)))<|.n (xo rfl (wo (by omega)))<|.w 0 (DI (mk:=Eh .u32) 0 0 Da I1 rfl (fun _=>⟨rfl,rfl⟩) (.t rfl) (.t rfl) (by omega) (by omega) (by omega) (by omega) rfl)<|.n (yX rfl rfl)<|.nil) rfl fun g6=>CZ 0 (E4 0 5 6 7 rfl) rfl<|Dd<|zV (.b rfl<|.nil) rfl fun g7=>CZ 0 (E5 0 5 6 7 8 rfl) rfl<|zC<|zT<|D4 (α:=Nat×List Int) (fun x=>Ye m x.2 (n/32) (2^(n % 32)) x.1) (fun x=>m.length-x.1) (fun x restR=>(8,I6 (x.1:Int))::restR) (fun x restS=>DC (g6 23) (Eh .u32) x.2 256::restS) (ρc:=[(0,_),(5,_),(6,_),(7,_)]) (σc:=[]) (0,List.replicate (n/32+m.length+1) 0) (by exact Wg rfl hp1) (To.pick (fun _=>E5 8 0 5 6 7 rfl) (fun _=> .sub 0 rfl (yQ (by rw[show(((n/32:Nat):Int)+(m.length:Int)+1).toNat=n/32+m.length+1 by omega]))<|.nil) (ks:=[0]) rfl) (fun x hI=>?_)
 obtain⟨i,l⟩:=x
 try simp only at hI
 show J _ _ ((8,I6 (i:Int))::_) (DC (g6 23) (Eh .u32) l 256::_) _ _
 refine zF<|zV (.mm rfl<|.n (xv Da rfl)<|.n (xw rfl)<|.nil) rfl fun g8=>CZ 0 (E6 0 5 6 7 8 27 rfl) rfl<|zC<|zh rfl (fun h2=>?_) (fun h2=>?_)<;>try simp only[CT,Z]at h2
 ·have hIi:=hI.hi
  have hIl:=hI.hl
  have gm:=hm.at (k:=((i:Nat):Int).toNat) (show i<m.length by omega)
  have gl:=hI.hd.at (k:=(((n/32:Nat):Int)+(i:Int)).toNat) (by omega)
  obtain⟨x,hx⟩: ∃ x,x=m.getD i 0:=⟨_,rfl⟩
  obtain⟨t,ht⟩: ∃ t,t=x*2^(n % 32):=⟨_,rfl⟩
  have htx:m.getD ((i:Nat):Int).toNat 0*2^(n % 32)=t:=by rw[ht,hx];rfl
  have hor:Ej .or .u32 (l.getD (((n/32:Nat):Int)+(i:Int)).toNat 0) (t % 4294967296)=l.getD (n/32+i) 0+t % 4294967296:=jW hs32 hm hI (show i<m.length by omega) hx ht
  have hpt:=Mg (x:=x) (p:=2^(n % 32)) (by rw[hx];exact gm) hp1 hp2 hp3
  rw[←ht]at hpt
  refine yE<|Dd<|zT<|zV (.mm rfl<|.n (xx 0 Da rfl (by omega) (by omega))<|.n (xy Fb rfl)<|.n (xg DT El rfl (DD (by omega) (by omega)))<|.m rfl<|.n (GD (.t rfl) (.t rfl) (by omega) (tO gm hs32))<|.z rfl) rfl fun g9=>CZ 0 (E6 0 5 6 7 8 9 rfl) rfl<|zC ?_
  rw[htx]
  refine zV (.mm rfl<|.m rfl<|.n (xq rfl (wo (by omega)))<|.r 0 (xz 0 Da rfl (by omega) (by omega))<|.r 0 (DH 0 0 Fb (.t rfl) rfl (by omega))<|.m rfl<|.n (xg El DT rfl (Ls _))<|.n (Ep (by simp) (.t rfl) (.t rfl) hor)<|.r 0 (xz 0 Da rfl (by omega) (by omega))<|.w 0 (xA (mk:=Eh .u32) 0 rfl DY G4 rfl (by omega))<|.nil) rfl fun g10=>CZ 0 (E6 0 5 6 7 8 9 rfl) rfl<|zC<|(zG [] (.mm rfl<|.m rfl<|.n (xq rfl (wo (by omega)))<|.n (xo rfl (wo (by omega)))<|.m rfl<|.n (xr rfl (by omega) (IS _))<|.n (xg El DT rfl (I0 (by omega) (by omega)))<|.r 0 (xz 0 Da rfl (by omega) (by rw[Aa];omega))<|.w 0 (xA (mk:=Eh .u32) 0 rfl DY G4 rfl (by rw[Aa];omega))<|.nil) ff rfl fun g11=>CZ 0 (E5 0 5 6 7 8 rfl) rfl ?_)
  refine zR<|zC<|(zG [] (.m rfl<|.n (xo rfl (wo (by omega)))<|.z rfl) ff rfl fun g12=>CZ 0 (E5 0 5 6 7 8 rfl) rfl ?_)
  exact yW (i+1,(l.set (n/32+i) (l.getD (n/32+i) 0+t % 4294967296)).set (n/32+i+1) (t/4294967296)) (by exact We hm hI (by omega) hp1 hp2 hp3 hx ht) (by show m.length-(_+1)<_;omega) (Es (fun _=>E5 8 0 5 6 7 rfl) fun _=>R1 0 rfl)
 have hIl:=hI.hl
 have hIi:=hI.hi
 obtain⟨hdg,hmg⟩:=Wd hI (show i=m.length by have:=hI.hi;omega)
 rw[b8]at hmg
 refine D6<|zE<|zE<|zS<|zW (.m rfl<|.w 0 (CV 0 (pf hdg (by omega)) (A1 rfl) rfl)<|.z rfl) rfl fun g13=>CZ 0 (E1 4 rfl) rfl<|De<|D5 (To.res 0 (r':=DC (J0 (g6 23) (CR (CX l).toNat).length) (Eh .u32) (CR (CX m*2^n).toNat) 256) rfl (yQ (by rw[hmg])) rfl)<|HD (u:=(J0 (g6 23) (CR (CX l).toNat).length)) 0 rfl rfl (.tmp (.t rfl)) (fun _ _ h=>h.1)<|zL
theorem pg{a:Int}(hd:Fm [a]):Ct prog 189 [Mv 1 1 [CW (.int .u32 a)]] (DP .u32 (CR (CX [a]).toNat)):=HI (l:=[a]) hd
end Go.Proofs.YtgfanjebfjeneaaGreatDoor
