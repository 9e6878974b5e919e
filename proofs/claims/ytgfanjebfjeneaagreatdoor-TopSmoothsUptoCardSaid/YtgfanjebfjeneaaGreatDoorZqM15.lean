/- Printed by a program of ours (walk.py): walks of numbers taken apart and put together. -/
import Derived.Test.YtgfanjebfjeneaaGreatDoorZqM1
import Derived.Test.YtgfanjebfjeneaaGreatDoorProg
import Derived.KernelRfl
import Derived.Test.YtgfanjebfjeneaaGreatDoorZqM11
import Derived.Test.YtgfanjebfjeneaaGreatDoorZqM14
import Derived.Test.YtgfanjebfjeneaaGreatDoorZqM5
import Derived.Test.YtgfanjebfjeneaaGreatDoorZqM8
import Derived.Test.YtgfanjebfjeneaaGreatDoorZqM12
import Derived.Test.YtgfanjebfjeneaaGreatDoorZqM2
set_option linter.unusedVariables false
set_option linter.unusedSimpArgs false
set_option maxRecDepth 20000
set_option maxHeartbeats 8000000
namespace Go.Proofs.YtgfanjebfjeneaaGreatDoor
open Go Go.Bn Go.Proofs.Tryz
attribute [local irreducible] OpOK
theorem gz{b:Nat}(hb:b<2^64)(hf:DF b=true):Ct prog 147 [CW (.int .u64 (b:Int)),OI] (EP [CW (.bool (On b)),I6 (FI b:Int),CW (.int .u64 (He b:Int))]):=by
 refine Ct.of func147 rfl (by kernel_rfl) rfl fun c0=>?_
 have hcn:cn b=b:=EA (Ht hf)
 refine DS<|zV (.w 0 (xa 0 rfl yL rfl)<|.b rfl<|.b rfl<|.b rfl<|.nil) rfl fun g1=>CZ 0 (E2 0 3 rfl) rfl<|zW (.m rfl<|.r 0 (xc 0 I7 rfl zJ rfl)<|.n (zP (ND hb) (A2 rfl))<|.z rfl) rfl fun g2=>CZ 0 (E2 3 7 rfl) rfl<|zC<|yN (To.slot 7 rfl (q:=CW (.int .u64 ((b:Nat):Int))) (D3 (by rw[hcn])))<|zF (zG [[],[],[1],[0,1,2],[0,1,2,3],[],[],[6],[5,6,7],[],[9],[9,10],[5,6,7,8,9,10,11],[5,6,7,8,9,10,11,12],[],[],[1,2,15],[1,2,15,16],[1,2,14,15,16,17],[0,1,2,3,4,15,16],[0,1,2,3,4,5,6,7,8,9,10,11,12,13,15,16,19],[0,1,2,3,4,5,6,7,8,9,10,11,12,13,14,15,16,17,18,19,20]] (.m rfl<|.r 0 (xc 0 I7 rfl zJ rfl)<|.n (zP (UP) (A1 rfl))<|.n (Ep (by simp) (.t rfl) (.t rfl) rfl)<|.n (xd rfl)<|.m rfl<|.n (xe M8 rfl)<|.r 0 (xf 0 Tk rfl zJ rfl)<|.n (GV (.t rfl) (.t rfl) (by omega) (Jz b 52 (by omega)))<|.n (xe M9 rfl)<|.r 0 (xf 0 Ez rfl zJ rfl)<|.n (xg KL El rfl (by decide+kernel:_=(2047:Int)))<|.n (Ep (by simp) (.t rfl) (.t rfl) (YA hb))<|.n (xg El KL rfl (NL _))<|.m rfl<|.r 0 (xc 0 I7 rfl zJ rfl)<|.n (zP (Ud) (A1 rfl))<|.n (xh rfl (by decide+kernel:_=(4503599627370495:Int)))<|.n (Ep (by simp) (.t rfl) (.t rfl) (show _=((He b:Nat):Int) by have:=SV hb;rw[hcn]at this;exact this))<|.a rfl<|.a rfl<|.z rfl) (fun _=>Di) rfl fun g3=>CY (E3 4 5 6 rfl) ?_)
 refine De<|zq rfl<|D3 (by rw[rX hb])
theorem lQ{b:Nat}(hb:b<2^64)(hf:DF b=true):Ct prog 120 [CW (.int .u64 (b:Int)),OI] (EP [DL [CW (.bool (On b)),CW (.int .u64 ((Kx (Iw b):Nat):Int)),I6 (IM (Iw b) (JK b))],I6 0]):=by
 refine Ct.of func120 rfl (by kernel_rfl) rfl fun c0=>?_
 have hcn:cn b=b:=EA (Ht hf)
 have hcl:=oV hf
 have hcc:JJ (cn b)=JJ b:=by rw[hcn]
 have hfl:=aM b
 have hel:=pE b
 have hml:=Nc b
 have hpg:=Uy b
 refine yN (To.emps 2)<|zV (.w 0 (xa 0 rfl yL rfl)<|.w 1 (xj 1 MO rfl)<|.b rfl<|.nil) rfl fun g1=>nx (E3 0 3 4 rfl) (R2 0 1 rfl)<|zW (.m rfl<|.r 0 (xc 0 I7 rfl zJ rfl)<|.n (zP (gz hb hf) (A2 rfl))<|.m rfl<|.n (xk rfl)<|.n (xk rfl)<|.n (xk rfl)<|.a rfl<|.a rfl<|.z rfl) rfl fun g2=>nx (E6 0 3 4 6 7 8 rfl) (R2 0 1 rfl)<|zC<|DS<|zV (.mm rfl<|.m rfl<|.n (xe pK rfl)<|.r 0 (xf 0 Ez rfl zJ rfl)<|.n (Eb (.t rfl) (.t rfl) (wo (by omega)))<|.n (D1 MO rfl bP (.g D7 rfl (.g D7 rfl (.g D7 rfl .nil))))<|.w 2 (xj 2 MO rfl)<|.w 2 (xm 2 rfl yL Oy rfl)<|.nil) rfl fun g3=>nx (E5 0 3 4 6 9 rfl) (R3 0 1 2 rfl)<|Dd<|zV (.m rfl<|.r 0 (xc 0 I7 rfl zJ rfl)<|.n (zP (Yw hb) (A2 rfl))<|.nil) rfl fun g4=>nx (E5 3 4 6 9 27 rfl) (R3 0 1 2 rfl)<|zC<|zT<|zF<|zV (.n (xd rfl)<|.z rfl) rfl fun g5=>nx (E6 3 4 6 9 27 34 rfl) (R3 0 1 2 rfl)<|zC<|zh rfl (fun h1=>?_) (fun h1=>?_)<;>try simp only[CT,Z]at h1
 ·exact absurd h1 (by omega)
 refine(zG [] (.n (xd rfl)<|.z rfl) ff rfl fun g6=>nx (E6 3 4 6 9 27 34 rfl) (R3 0 1 2 rfl) ?_)
 refine zC<|zh rfl (fun h2=>?_) (fun h2=>?_)<;>try simp only[CT,Z]at h2
 ·exact absurd h2 (by omega)
 refine zV (.n (xd rfl)<|.z rfl) rfl fun g7=>nx (E6 3 4 6 9 27 38 rfl) (R3 0 1 2 rfl)<|zC<|zh rfl (fun h3=>?_) (fun h3=>?_)<;>try simp only[CT,Z]at h3
 ·obtain⟨ho1,ho2⟩:=zc (e:=JK b) (show Iw b=0 by omega)
  refine zV (.m rfl<|.n (D1 MO rfl bP (.g D7 rfl .nil))<|.w 1 (xn 1 rfl yL Oy rfl)<|.b rfl<|.nil) rfl fun g8=>CZ 1 (E2 4 5 rfl) rfl<|De<|yP<|zD<|zQ (.cons (.ag 0 (.t rfl) Pr rfl rfl rfl)<|.cons (.tmp (.t rfl))<|.nil) (zM (Dk (.cons zL<|.cons zL<|.nil)) ?_)
  exact D3 (by rw[ho1,ho2];rfl)
 refine zV (.n (xd rfl)<|.z rfl) rfl fun g9=>nx (E4 3 4 9 42 rfl) (R3 0 1 2 rfl)<|zC<|zh rfl (fun h4=>?_) (fun h4=>?_)<;>try simp only[CT,Z]at h4
 ·have h4m:Iw b=He b:=by omega
  have h4p:JK b=(FI b:Int) -1075+1:=by omega
  have h4n:He b≠0:=by omega
  refine(zG [] (.n (xe GG rfl)<|.r 2 (xf 2 Ez rfl zJ rfl)<|.n (xo rfl (wo (by omega)))<|.n (xe GG rfl)<|.w 2 (xn 2 rfl D7 wE rfl)<|.nil) ff rfl fun g10=>nx (E2 4 9 rfl) (R2 1 2 rfl) ?_)
  refine zR<|zW (.n (xe Iv rfl)<|.r 1 (xf 1 Fa rfl zJ rfl)<|.n (zP (cM (by omega) (by omega)) (A1 rfl))<|.z rfl) rfl fun g11=>nx (E3 4 9 10 rfl) (R2 0 1 rfl)<|zW (.n (xe Iv rfl)<|.r 1 (xf 1 Fa rfl zJ rfl)<|.m rfl<|.n (GV (.t rfl) (.t rfl) (by omega) (ni (by omega) (by omega)))<|.n (xe Iv rfl)<|.w 1 (xn 1 rfl D7 J4 rfl)<|.nil) rfl fun g12=>nx (E3 4 9 10 rfl) (R2 0 1 rfl)<|zW (.n (xe GG rfl)<|.r 1 (xf 1 Ez rfl zJ rfl)<|.m rfl<|.n (xq rfl (ZX (by omega) (by omega) (by omega) (by omega)))<|.n (xe GG rfl)<|.w 1 (xn 1 rfl D7 wE rfl)<|.nil) rfl fun g13=>nx (E2 4 9 rfl) (R2 0 1 rfl)<|zW (.r 1 (xc 1 Pr rfl zJ rfl)<|.w 0 (xn 0 rfl yL Oy rfl)<|.b rfl<|.nil) rfl fun g14=>CZ 0 (E2 4 5 rfl) rfl<|De<|zQ (.cons (.ag 0 (.t rfl) Pr rfl rfl rfl)<|.cons (.tmp (.t rfl))<|.nil) (zM (Dk (.cons zL<|.cons zL<|.nil)) ?_)
  exact D3 (by rw[h4m,h4p];rfl)
 have h5m:Iw b=He b+4503599627370496:=by omega
 have h5p:JK b=(FI b:Int) -1075:=by omega
 refine(zG [[],[0],[],[2],[0,1,2,3],[0,1,2,3,4],[0,1,2,3,4,5]] (.n (xe Iv rfl)<|.r 2 (xf 2 Fa rfl zJ rfl)<|.r 0 (xc 0 I7 rfl zJ rfl)<|.n (zP (Ud) (A1 rfl))<|.n (Ep (by simp) (.t rfl) (.t rfl) (vR h5m))<|.n (xe Iv rfl)<|.w 2 (xn 2 rfl D7 J4 rfl)<|.nil) (fun _=>Di) rfl fun g15=>nx (E2 4 9 rfl) (R2 1 2 rfl) ?_)
 refine zR<|zW (.n (xe Iv rfl)<|.r 1 (xf 1 Fa rfl zJ rfl)<|.n (zP (cM (by omega) (by omega)) (A1 rfl))<|.z rfl) rfl fun g16=>nx (E3 4 9 10 rfl) (R2 0 1 rfl)<|zW (.n (xe Iv rfl)<|.r 1 (xf 1 Fa rfl zJ rfl)<|.m rfl<|.n (GV (.t rfl) (.t rfl) (by omega) (ni (by omega) (by omega)))<|.n (xe Iv rfl)<|.w 1 (xn 1 rfl D7 J4 rfl)<|.nil) rfl fun g17=>nx (E3 4 9 10 rfl) (R2 0 1 rfl)<|zW (.n (xe GG rfl)<|.r 1 (xf 1 Ez rfl zJ rfl)<|.m rfl<|.n (xq rfl (ZX (by omega) (by omega) (by omega) (by omega)))<|.n (xe GG rfl)<|.w 1 (xn 1 rfl D7 wE rfl)<|.nil) rfl fun g18=>nx (E2 4 9 rfl) (R2 0 1 rfl)<|zW (.r 1 (xc 1 Pr rfl zJ rfl)<|.w 0 (xn 0 rfl yL Oy rfl)<|.b rfl<|.nil) rfl fun g19=>CZ 0 (E2 4 5 rfl) rfl<|De<|zQ (.cons (.ag 0 (.t rfl) Pr rfl rfl rfl)<|.cons (.tmp (.t rfl))<|.nil) (zM (Dk (.cons zL<|.cons zL<|.nil)) ?_)
 exact D3 (by rw[h5p];rfl)
theorem dd{x:Nat}(hf:DF x=true):Ct prog 76 [Dm x] (EP [DL [CW (.bool (On x)),CW (.int .u64 ((Kx (Iw x):Nat):Int)),I6 (IM (Iw x) (JK x))],I6 0]):=by
 refine Ct.of func76 rfl (by kernel_rfl) rfl fun c0=>Yc 0 rfl fun hx1 hx2=>?_
 have hn1:=Ht hf
 refine DS<|zV (.w 0 (xj 0 MO rfl)<|.b rfl<|.nil) rfl fun g1=>CZ 0 (E2 0 2 rfl) rfl<|zW (.m rfl<|.n (WS SJ hn1 (.t rfl))<|.n (zP (bH) ⟨(.k rfl),trivial⟩)<|.n (zP (lQ hx1 hf) (A2 rfl))<|.n (xk rfl)<|.n (xk rfl)<|.w 0 (xn 0 rfl yL Oy rfl)<|.z rfl) rfl fun g2=>CZ 0 (E2 2 3 rfl) rfl<|De<|zQ (.cons (.ag 0 (.t rfl) Pr rfl rfl rfl)<|.cons (.tmp (.t rfl))<|.nil) (zM (Dk (.cons zL<|.cons zL<|.nil)) ?_)
 exact zL
theorem Ji{z:Int}:Ct prog 42 [CW (.bool true),I6 z] (Ge):=by
 refine Ct.of func42 rfl (by kernel_rfl) rfl fun c0=>zV (.m rfl<|.n (EI (.t rfl))<|.nil) rfl fun g1=>CY (E2 1 5 rfl)<|zC<|zh rfl (fun h1=>?_) (fun h1=>?_)<;>have h1':=h1<;>try simp only[CT,Z]at h1
 ·exact absurd h1' (by decide)
 refine yE<|IU<|zQ (.nil) (zM zL ?_)
 exact HS
theorem W4{u:Value}{x y:Int}(hx:(CQ x.natAbs).length≤400000000)(hy:(CQ y.natAbs).length≤400000000):En prog 83 [DW u 0,DW u 0,Rd y] (Dh u (GT (x)) 154) (DW u 0) (Dh u (GT (x*y)) 154):=by
 refine En.of func83 rfl (by kernel_rfl) rfl (CU) fun c0 ob hr0=>zV (.b rfl<|.nil) rfl fun g1=>CZ 0 (E3 0 1 2 rfl) rfl<|zC<|zF (zG [[],[],[1],[1,2],[1,2,3],[],[5],[5,6],[5,6,7],[1,2,3,4,5,6,7,8],[],[10],[10,11],[10,11,12],[],[14],[14,15],[14,15,16],[10,11,12,13,14,15,16,17],[0,1,2,3,4,5,6,7,8,9,10,11,12,13,14,15,16,17,18],[0,1,2,3,4,5,6,7,8,9,10,11,12,13,14,15,16,17,18,19]] (.mm rfl<|.n (xD rfl)<|.n (xe Fq rfl)<|.r 0 (xf 0 Kg rfl zJ rfl)<|.m rfl<|.n (xE rfl)<|.n (xF Fq rfl)<|.n (xy Kg rfl)<|.n (LO underlying4 (.t rfl) (.t rfl))<|.m rfl<|.n (xD rfl)<|.n (xe ES rfl)<|.r 0 (xf 0 GW rfl zJ rfl)<|.m rfl<|.n (xE rfl)<|.n (xF ES rfl)<|.n (xy GW rfl)<|.n (zP (Jo (D9 _) (D9 _) (by omega) (by omega)) (A2 rfl))<|.w 0 (CV 0 (HJ) (A3 rfl) rfl)<|.z rfl) (fun _=>Di) rfl fun g2=>CZ 0 (E1 6 rfl) rfl ?_)
 refine De<|D5 (To.res 0 (r':=Dh u (GT (x*y)) 154) rfl (yQ (by rw[JD,qO])) rfl)<|Db 0 hr0 (CU) rfl (.cons (.tmp (.t rfl))<|.nil) (zM (yD zL) ?_)
 exact zL
theorem Yz{x:Nat}(hf:DF x=true):Ct prog 43 [Dm x] (Nx (Hc x)):=by
 refine Ct.of func43 rfl (by kernel_rfl) rfl fun c0=>Yc 0 rfl fun hx1 hx2=>?_
 obtain⟨he0,he1⟩:=lj hf hx1
 have he0: -1074≤(IM (Iw x) (JK x)):=he0
 have he1:(IM (Iw x) (JK x))≤1034:=he1
 have hm:=qW x
 have hml:=Rp (n:=Kx (Iw x)) (by omega)
 have hp:=m8 (n:=((IM (Iw x) (JK x))).natAbs) (by omega)
 refine DS<|zV (.w 0 (xj 0 GK rfl)<|.nil) rfl fun g1=>CZ 0 (E2 0 2 rfl) rfl<|zC<|DS<|zV (.m rfl<|.n (zP (dd (by assumption)) (A1 rfl))<|.m rfl<|.n (xk rfl)<|.n (xk rfl)<|.w 1 (xj 1 MO rfl)<|.w 1 (xm 1 rfl yL Oy rfl)<|.z rfl) rfl fun g2=>nx (E3 2 3 4 rfl) (R2 0 1 rfl)<|zW (.m rfl<|.n (xd rfl)<|.n (zP (Ji) ⟨(.t rfl),(.k rfl),trivial⟩)<|.nil) rfl fun g3=>nx (E2 2 3 rfl) (R2 0 1 rfl)<|zC<|DS<|zV (.w 2 (xj 2 XY rfl)<|.n (xe Iv rfl)<|.r 1 (xf 1 Fa rfl zJ rfl)<|.w 2 (F6 2 rfl rfl (fun u=>ft (by omega)) rfl (A1 rfl))<|.n (yX rfl rfl)<|.nil) rfl fun g4=>nx (E3 2 3 5 rfl) (R3 0 1 2 rfl)<|Dd<|zV (.n (xe aJ rfl)<|.r 1 (xf 1 Kg rfl zJ rfl)<|.nil) rfl fun g5=>nx (E4 2 3 5 20 rfl) (R3 0 1 2 rfl)<|zC<|zh rfl (fun h1=>?_) (fun h1=>?_)<;>have h1':=h1<;>try simp only[CT,Z]at h1
 ·refine(zG [] (.mm rfl<|.w 2 (CV 2 (fp (UR (by rw[Av];omega))) (A2 rfl) rfl)<|.nil) ff rfl fun g6=>nx (E3 2 3 5 rfl) (R3 0 1 2 rfl) ?_)
  refine zC<|DS<|zF (zG [[],[],[],[2],[],[4],[4,5],[2,3,4,5,6],[2,3,4,5,6,7],[0,1,2,3,4,5,6,7,8],[0,1,2,3,4,5,6,7,8,9]] (.w 3 (xj 3 XY rfl)<|.n (zP (L5 (n:=1) (by decide)) ⟨(.k rfl),trivial⟩)<|.n (xe GG rfl)<|.r 1 (xf 1 Ez rfl zJ rfl)<|.n (xe GG rfl)<|.r 1 (xf 1 Ez rfl zJ rfl)<|.n (Nh (.t rfl) (wo (by omega)))<|.n (Us (.t rfl) (.t rfl))<|.n (xg KL I8 rfl (show IntKind.u64.wrap (max (IM (Iw x) (JK x)) (-(IM (Iw x) (JK x))))=((((IM (Iw x) (JK x))).natAbs:Nat):Int) by rw[DD (by omega) (by omega)];omega))<|.w 3 (F6 3 rfl rfl (fun u=>WW (UR (by decide)) (by omega)) rfl (A2 rfl))<|.n (yX rfl rfl)<|.nil) (fun _=>Di) rfl fun g7=>nx (E4 2 3 5 6 rfl) (R4 0 1 2 3 rfl) ?_)
  refine Dd<|zV (.n (xe GG rfl)<|.r 1 (xf 1 Ez rfl zJ rfl)<|.n (xd rfl)<|.nil) rfl fun g8=>nx (E4 2 5 6 36 rfl) (R3 0 2 3 rfl)<|zC<|zh rfl (fun h2=>?_) (fun h2=>?_)<;>try simp only[CT,Z]at h2
  ·refine yN (To.freeze 1 (fun _ h=>h) rfl Dv rfl)<|yN (To.freeze 2 (fun _ h=>h) rfl Dv rfl)<|DS<|zV (.w 1 (xj 1 MP rfl)<|.mm rfl<|.w 1 (F6 1 rfl rfl (fun u=>P7 (by first|(rw[BW,Av];omega)|(rw[Av];omega)) (by omega) (by have:=Ax ((IM (Iw x) (JK x))).natAbs;exact bQ)) rfl ⟨(Lk.sub (DN 1 2 rfl rfl) (.t rfl)),(Lk.sub (DN 0 2 rfl rfl) (.t rfl)),trivial⟩)<|.n (HP 40 41 rfl rfl rfl (fun f=>(D1 GK rfl Ob (.g HH rfl .nil))) (fun f g h=>by rw[h 40 (show 40∈ [40]from by decide)]) rfl)<|.w 0 (LQ 41 rfl rfl (fun f=>yM 0 (.t rfl) (.t rfl) yL JC rfl rfl rfl) (fun f g h=>by rw[h 40 (show 40∈ [40]from by decide)]) rfl)<|.nil) rfl fun g9=>nx (E1 2 rfl) (R2 0 1 rfl)<|De<|zD<|D5 (To.freeze 1 (fun _ h=>h) rfl Dv rfl)<|zQ (.cons (.ag 0 (.t rfl) GF rfl rfl rfl)<|.nil) (zM (yD (Dx (.cons (DN 0 4 rfl rfl)<|.nil))) ?_)
   exact D3 (congrArg (fun q=>Nx q) (tg (x:=x) ((aF x).1 h1') rfl h2))
  refine yE<|zC<|yN (To.freeze 2 (fun _ h=>h) rfl Dv rfl)<|DS<|zF (Sg ?_)
  refine Ha 5 rfl<|(GQ (.w 2 (xj 2 MP rfl)<|.mm rfl<|.m rfl<|.w 1 (CV 1 (W4 (by first|(rw[BW,Av];omega)|(rw[Av];omega)) (by omega)) ⟨(.t rfl),(.t rfl),(Lk.sub (DN 0 2 rfl rfl) (.t rfl)),trivial⟩ rfl)<|.nil) rfl fun g10=>nx (E3 2 42 46 rfl) (R3 0 1 2 rfl) ?_)
  refine D5 (To.freeze 1 (fun _ h=>h) rfl Dv rfl)<|K7<|(GQ (.w 2 (CV 2 (X3 (by rw[BB];exact HV (n:=1) (m:=18) (by first|(rw[BW,Av];exact hml)|(rw[Av];exact hml)) hp (by omega))) ⟨(.t rfl),(Lk.sub (DN 0 2 rfl rfl) (.t rfl)),trivial⟩ rfl)<|.n (D1 GK rfl Ob (.g HH rfl .nil))<|.w 0 (xn 0 rfl yL JC rfl)<|.nil) rfl fun g11=>nx (E1 2 rfl) (R2 0 2 rfl) ?_)
  refine De<|D5 (To.freeze 1 (fun _ h=>h) rfl Dv rfl)<|zQ (.cons (.ag 0 (.t rfl) GF rfl rfl rfl)<|.nil) (zM (yD (Dx (.cons (DN 0 4 rfl rfl)<|.nil))) ?_)
  exact D3 (congrArg (fun q=>Nx q) (th (x:=x) ((aF x).1 h1') rfl (Int.not_lt.2 h2)))
 refine yE<|zC<|DS<|zF (zG [[],[],[],[2],[],[4],[4,5],[2,3,4,5,6],[2,3,4,5,6,7],[0,1,2,3,4,5,6,7,8],[0,1,2,3,4,5,6,7,8,9]] (.w 3 (xj 3 XY rfl)<|.n (zP (L5 (n:=1) (by decide)) ⟨(.k rfl),trivial⟩)<|.n (xe GG rfl)<|.r 1 (xf 1 Ez rfl zJ rfl)<|.n (xe GG rfl)<|.r 1 (xf 1 Ez rfl zJ rfl)<|.n (Nh (.t rfl) (wo (by omega)))<|.n (Us (.t rfl) (.t rfl))<|.n (xg KL I8 rfl (show IntKind.u64.wrap (max (IM (Iw x) (JK x)) (-(IM (Iw x) (JK x))))=((((IM (Iw x) (JK x))).natAbs:Nat):Int) by rw[DD (by omega) (by omega)];omega))<|.w 3 (F6 3 rfl rfl (fun u=>WW (UR (by decide)) (by omega)) rfl (A2 rfl))<|.n (yX rfl rfl)<|.nil) (fun _=>Di) rfl fun g12=>nx (E4 2 3 5 6 rfl) (R4 0 1 2 3 rfl) ?_)
 refine Dd<|zV (.n (xe GG rfl)<|.r 1 (xf 1 Ez rfl zJ rfl)<|.n (xd rfl)<|.nil) rfl fun g13=>nx (E4 2 5 6 36 rfl) (R3 0 2 3 rfl)<|zC<|zh rfl (fun h3=>?_) (fun h3=>?_)<;>try simp only[CT,Z]at h3
 ·refine yN (To.freeze 1 (fun _ h=>h) rfl Dv rfl)<|yN (To.freeze 2 (fun _ h=>h) rfl Dv rfl)<|DS<|zV (.w 1 (xj 1 MP rfl)<|.mm rfl<|.w 1 (F6 1 rfl rfl (fun u=>P7 (by first|(rw[BW,Av];omega)|(rw[Av];omega)) (by omega) (by have:=Ax ((IM (Iw x) (JK x))).natAbs;exact bQ)) rfl ⟨(Lk.sub (DN 1 2 rfl rfl) (.t rfl)),(Lk.sub (DN 0 2 rfl rfl) (.t rfl)),trivial⟩)<|.n (HP 40 41 rfl rfl rfl (fun f=>(D1 GK rfl Ob (.g HH rfl .nil))) (fun f g h=>by rw[h 40 (show 40∈ [40]from by decide)]) rfl)<|.w 0 (LQ 41 rfl rfl (fun f=>yM 0 (.t rfl) (.t rfl) yL JC rfl rfl rfl) (fun f g h=>by rw[h 40 (show 40∈ [40]from by decide)]) rfl)<|.nil) rfl fun g14=>nx (E1 2 rfl) (R2 0 1 rfl)<|De<|zD<|D5 (To.freeze 1 (fun _ h=>h) rfl Dv rfl)<|zQ (.cons (.ag 0 (.t rfl) GF rfl rfl rfl)<|.nil) (zM (yD (Dx (.cons (DN 0 4 rfl rfl)<|.nil))) ?_)
  exact D3 (congrArg (fun q=>Nx q) (tg (x:=x) ((aF x).2 h1') rfl h3))
 refine yE<|zC<|yN (To.freeze 2 (fun _ h=>h) rfl Dv rfl)<|DS<|zF (Sg ?_)
 refine Ha 5 rfl<|(GQ (.w 2 (xj 2 MP rfl)<|.mm rfl<|.m rfl<|.w 1 (CV 1 (W4 (by first|(rw[BW,Av];omega)|(rw[Av];omega)) (by omega)) ⟨(.t rfl),(.t rfl),(Lk.sub (DN 0 2 rfl rfl) (.t rfl)),trivial⟩ rfl)<|.nil) rfl fun g15=>nx (E3 2 42 46 rfl) (R3 0 1 2 rfl) ?_)
 refine D5 (To.freeze 1 (fun _ h=>h) rfl Dv rfl)<|K7<|(GQ (.w 2 (CV 2 (X3 (by rw[BB];exact HV (n:=1) (m:=18) (by first|(rw[BW,Av];exact hml)|(rw[Av];exact hml)) hp (by omega))) ⟨(.t rfl),(Lk.sub (DN 0 2 rfl rfl) (.t rfl)),trivial⟩ rfl)<|.n (D1 GK rfl Ob (.g HH rfl .nil))<|.w 0 (xn 0 rfl yL JC rfl)<|.nil) rfl fun g16=>nx (E1 2 rfl) (R2 0 2 rfl) ?_)
 refine De<|D5 (To.freeze 1 (fun _ h=>h) rfl Dv rfl)<|zQ (.cons (.ag 0 (.t rfl) GF rfl rfl rfl)<|.nil) (zM (yD (Dx (.cons (DN 0 4 rfl rfl)<|.nil))) ?_)
 exact D3 (congrArg (fun q=>Nx q) (th (x:=x) ((aF x).2 h1') rfl (Int.not_lt.2 h3)))
theorem aR{r c i j:Nat}{qs:List Rat}(h1:i*c+j<qs.length)(h3:qs.length≤1000):Ct prog 85 [DL [I6 (r:Int),I6 (c:Int),I2 EE qs],I6 (i:Int),I6 (j:Int)] (Nx (qs.getD (i*c+j) 0)):=by
 refine Ct.of func85 rfl (by kernel_rfl) rfl fun c0=>yN (To.emps 2)<|zV (.w 0 (xa 0 rfl yL rfl)<|.w 1 (xj 1 GK rfl)<|.nil) rfl fun g1=>nx (E4 1 2 3 6 rfl) (R2 0 1 rfl)<|zW (.n (xe KX rfl)<|.r 0 (xf 0 Zp rfl zJ rfl)<|.m rfl<|.n (xe Kd rfl)<|.r 0 (xf 0 Ez rfl zJ rfl)<|.n (xu rfl (show IntKind.i64.wrap ((i:Int)*(c:Int))=((i*c:Nat):Int) by rw[←Ad];exact zO (by omega) (by omega)))<|.m rfl<|.n (xq rfl (show IntKind.i64.wrap (((i*c:Nat):Int)+(j:Int))=((i*c+j:Nat):Int) by rw[←Bf];exact zO (by omega) (by omega)))<|.n (xx 0 Sr rfl (by omega) (by omega))<|.n (DB GF (.t rfl) rfl rfl)<|.w 1 (xn 1 rfl yL JC rfl)<|.nil) rfl fun g2=>CZ 1 (E1 6 rfl) rfl<|De<|zQ (.cons (.ag 0 (.t rfl) GF rfl rfl rfl)<|.nil) (zM (yD zL) ?_)
 exact zL
theorem NS{U:Value}{r c i j:Nat}{qs:List Rat}(h1:i*c+j<qs.length)(h3:qs.length≤1000):En prog 85 [DL [I6 (r:Int),I6 (c:Int),CW U],I6 (i:Int),I6 (j:Int)] (DC U EE qs 104) (Nx (qs.getD (i*c+j) 0)) (DC U EE qs 104):=by
 refine En.of func85 rfl (by kernel_rfl) rfl (FU rfl) fun c0 ob hr0=>yN (To.emps 2)<|zV (.w 1 (xa 1 rfl yL rfl)<|.w 2 (xj 2 GK rfl)<|.nil) rfl fun g1=>nx (E4 1 2 3 6 rfl) (R3 0 1 2 rfl)<|zW (.n (xe KX rfl)<|.r 1 (xf 1 Zp rfl zJ rfl)<|.m rfl<|.n (xe Kd rfl)<|.r 1 (xf 1 Ez rfl zJ rfl)<|.n (xu rfl (show IntKind.i64.wrap ((i:Int)*(c:Int))=((i*c:Nat):Int) by rw[←Ad];exact zO (by omega) (by omega)))<|.m rfl<|.n (xq rfl (show IntKind.i64.wrap (((i*c:Nat):Int)+(j:Int))=((i*c+j:Nat):Int) by rw[←Bf];exact zO (by omega) (by omega)))<|.r 0 (xz 0 Sr rfl (by omega) (by omega))<|.r 0 (WU 0 0 GF (.t rfl) rfl (by omega))<|.w 2 (xn 2 rfl yL JC rfl)<|.nil) rfl fun g2=>nx (E1 6 rfl) (R2 0 2 rfl)<|De<|Db 0 hr0 (FU rfl) rfl (.cons (.ag 1 (.t rfl) GF rfl rfl rfl)<|.nil) (zM (yD zL) ?_)
 exact zL
theorem pY{U:Value}{r c i j:Nat}{qs:List Rat}(h1:i*c+j<qs.length)(h3:qs.length≤1000){x:Rat}:En prog 132 [DL [I6 (r:Int),I6 (c:Int),CW U],I6 (i:Int),I6 (j:Int),Nx x] (DC U EE qs 104) (Ge) (DC U EE (qs.set (i*c+j) x) 104):=by
 refine En.of func132 rfl (by kernel_rfl) rfl (FU (by rw[Aa])) fun c0 ob hr0=>yN (To.emps 2)<|zV (.w 1 (xa 1 rfl yL rfl)<|.w 2 (xa 2 rfl yL rfl)<|.nil) rfl fun g1=>nx (E4 1 2 4 7 rfl) (R3 0 1 2 rfl)<|zC<|(zG [] (.n (xe KX rfl)<|.r 1 (xf 1 Zp rfl zJ rfl)<|.m rfl<|.n (xe Kd rfl)<|.r 1 (xf 1 Ez rfl zJ rfl)<|.n (xu rfl (show IntKind.i64.wrap ((i:Int)*(c:Int))=((i*c:Nat):Int) by rw[←Ad];exact zO (by omega) (by omega)))<|.m rfl<|.n (xq rfl (show IntKind.i64.wrap (((i*c:Nat):Int)+(j:Int))=((i*c+j:Nat):Int) by rw[←Bf];exact zO (by omega) (by omega)))<|.r 2 (xc 2 GF rfl zJ rfl)<|.r 0 (xz 0 Sr rfl (by omega) (by omega))<|.w 0 (Sp (mk:=EE) 0 (.t rfl) (.t rfl) JC rfl (by omega))<|.nil) ff rfl fun g2=>CZ 0 (E0) rfl ?_)
 refine IU<|Db 0 hr0 (FU (by rw[Aa])) rfl (.nil) (zM zL ?_)
 exact HS
theorem pU{U:Value}{r c i k:Nat}{qs:List Rat}{f:Rat}(h3:qs.length≤1000)(hi:i*c+c≤qs.length)(hk:k*c+c≤qs.length)(hik:i≠k)(hf:FV 200000000 (0-f))(hA: ∀ j,j<c→FV 200000000 (qs.getD (i*c+j) 0))(hB: ∀ j,j<c→FV 200000000 (qs.getD (k*c+j) 0)∧FV 200000000 (qs.getD (k*c+j) 0*(0-f))):En prog 87 [DL [I6 (r:Int),I6 (c:Int),CW U],I6 (i:Int),I6 (k:Int),Nx (0-f)] (DC U EE qs 104) (Ge) (DC U EE (J2 qs i k c f c) 104):=by
 refine En.of func87 rfl (by kernel_rfl) rfl (FU (GU _ _ _ _ _ _).symm) fun c0 ob hr0=>yN (To.emps 2)<|zV (.w 1 (xa 1 rfl yL rfl)<|.w 2 (xa 2 rfl yL rfl)<|.nil) rfl fun g1=>nx (E4 1 2 4 7 rfl) (R3 0 1 2 rfl)<|zW (.n (xe Kd rfl)<|.r 1 (xf 1 Ez rfl zJ rfl)<|.n (zA (.k rfl))<|.nil) rfl fun g2=>nx (E6 1 2 4 7 10 11 rfl) (R3 0 1 2 rfl)<|zC<|zT<|D4 (α:=Nat) (fun j=>j≤c) (fun j=>c-j) (fun j restR=>(11,I6 (j:Int))::restR) (fun j restS=>DC U EE (J2 qs i k c f j) 104::restS) (ρc:=[(1,_),(2,_),(4,_),(7,_),(10,_)]) (σc:=[_,_]) 0 (by exact A7 _) (Es (fun _=>E6 11 1 2 4 7 10 rfl) fun _=>R3 0 1 2 rfl) (fun j hI=>?_)
 refine zV (.n (xw rfl)<|.nil) rfl fun g3=>nx (E7 1 2 4 7 10 11 12 rfl) (R3 0 1 2 rfl)<|Dd<|zh rfl (fun h1=>?_) (fun h1=>?_)<;>try simp only[CT,Z]at h1
 ·obtain⟨hX,hY⟩:=bc (qs:=qs) (f:=f) rfl hik hi hk (show j<c by omega)
  have hxs:FV 200000000 ((J2 qs i k c f j).getD (i*c+j) 0):=by rw[hX];exact hA j (by omega)
  have hys:FV 200000000 ((J2 qs i k c f j).getD (k*c+j) 0):=by rw[hY];exact(hB j (by omega)).1
  have hzs:FV 200000000 ((J2 qs i k c f j).getD (k*c+j) 0*(0-f)):=by rw[hY];exact(hB j (by omega)).2
  have hll:(J2 qs i k c f j).length=qs.length:=GU _ _ _ _ _ _
  refine yE<|Dd<|zT<|zV (.m rfl<|.z rfl) rfl fun g4=>nx (E7 1 2 4 7 8 10 11 rfl) (R3 0 1 2 rfl)<|zC<|(zG [[],[],[],[],[],[],[3,4,5],[],[],[],[3,4,5,6,7,8,9],[],[3,4,5,6,7,8,9,10,11],[3,4,5,6,7,8,9,10,11,12],[0,1,2,3,4,5,6,7,8,9,10,11,12,13]] (.r 1 (xc 1 KP rfl zJ rfl)<|.mm rfl<|.r 1 (xc 1 KP rfl zJ rfl)<|.mm rfl<|.w 0 (CV 0 (NS (by omega) (by omega)) (A3 rfl) rfl)<|.r 1 (xc 1 KP rfl zJ rfl)<|.mm rfl<|.w 0 (CV 0 (NS (by omega) (by omega)) (A3 rfl) rfl)<|.r 2 (xc 2 GF rfl zJ rfl)<|.n (zP (eV hys hf) (A2 rfl))<|.n (zP (l8 hxs hzs) (A2 rfl))<|.w 0 (CV 0 (pY (by omega) (by omega)) (A4 rfl) rfl)<|.nil) (fun _=>Di) rfl fun g5=>nx (E6 1 2 4 7 10 11 rfl) (R3 0 1 2 rfl) ?_)
  refine zR<|zC<|(zG [] (.n (xo rfl (wo (by omega)))<|.m rfl<|.nil) ff rfl fun g6=>nx (E6 1 2 4 7 10 11 rfl) (R3 0 1 2 rfl) ?_)
  exact yW (j+1) (by omega) (by omega) (To.pick (fun _=>E6 11 1 2 4 7 10 rfl) (fun _=> .sub 0 rfl (yQ (by rw[hX,hY,kd];rfl))<|.k 1 rfl<|.k 2 rfl<|.nil) (ks:=[0,1,2]) rfl)
 refine D6<|zE<|zE<|zS<|IU<|D5 (To.res 0 (r':=DC U EE (J2 qs i k c f c) 104) rfl (yQ (by rw[show j=c by omega])) rfl)<|Db 0 hr0 (FU (GU _ _ _ _ _ _).symm) rfl (.nil) (zM zL ?_)
 exact HS
theorem Uc{n:Nat}{qs:List Rat}(hl:qs.length=n*n)(h9:n≤12)(hz: ∀ m,m<qs.length→FV 200000000 (qs.getD m 0))(hs: ∀ i j,i<n→j<n→qs.getD (i*n+j) 0=qs.getD (j*n+i) 0):Ct prog 46 [DL [I6 (n:Int),I6 (n:Int),I2 EE qs]] (Ge):=by
 refine Ct.of func46 rfl (by kernel_rfl) rfl fun c0=>?_
 have hnn:n*n≤144:=C9 h9 h9
 refine DS<|zV (.w 0 (xa 0 rfl yL rfl)<|.nil) rfl fun g1=>CZ 0 (E1 1 rfl) rfl<|zW (.n (xe KW rfl)<|.r 0 (xf 0 Ez rfl zJ rfl)<|.n (zA (.k rfl))<|.nil) rfl fun g2=>CZ 0 (E3 1 5 6 rfl) rfl<|zC<|zT<|D4 (α:=Nat) (fun i=>i≤n) (fun i=>n-i) (fun i restR=>(6,I6 (i:Int))::restR) (fun i restS=>restS) (ρc:=[(1,_),(5,_)]) (σc:=[_]) 0 (by exact A7 _) (Es (fun _=>E3 6 1 5 rfl) fun _=>R1 0 rfl) (fun i hI=>?_)
 refine zV (.n (xw rfl)<|.nil) rfl fun g3=>CZ 0 (E4 1 5 6 7 rfl) rfl<|Dd<|zh rfl (fun h1=>?_) (fun h1=>?_)<;>try simp only[CT,Z]at h1
 ·refine yE<|Dd<|zT<|zV (.m rfl<|.z rfl) rfl fun g4=>CZ 0 (E4 1 2 5 6 rfl) rfl<|zW (.m rfl<|.n (zA (.k rfl))<|.nil) rfl fun g5=>CZ 0 (E6 1 2 5 6 9 10 rfl) rfl<|zC<|zT<|D4 (α:=Nat) (fun j=>j≤i) (fun j=>i-j) (fun j restR=>(10,I6 (j:Int))::restR) (fun j restS=>restS) (ρc:=[(1,_),(2,_),(5,_),(6,_),(9,_)]) (σc:=[_]) 0 (by exact A7 _) (Es (fun _=>E6 10 1 2 5 6 9 rfl) fun _=>R1 0 rfl) (fun j hI=>?_)
  refine zV (.n (xw rfl)<|.nil) rfl fun g6=>CZ 0 (E7 1 2 5 6 9 10 11 rfl) rfl<|Dd<|zh rfl (fun h2=>?_) (fun h2=>?_)<;>try simp only[CT,Z]at h2
  ·have hij:=Kf (i:=i) (c:=n) (k:=j) (n:=n) (by omega) (by omega)
   have hji:=Kf (i:=j) (c:=n) (k:=i) (n:=n) (by omega) (by omega)
   have he:=hs i j (by omega) (by omega)
   refine yE<|Dd<|zT<|zV (.m rfl<|.z rfl) rfl fun g7=>CZ 0 (E7 1 2 3 5 6 9 10 rfl) rfl<|zC<|(zG [[],[],[],[0,1,2],[],[],[],[0,1,2,3,4,5,6],[0,1,2,3,4,5,6,7],[0,1,2,3,4,5,6,7,8],[0,1,2,3,4,5,6,7,8,9],[0,1,2,3,4,5,6,7,8,9,10]] (.r 0 (xc 0 KP rfl zJ rfl)<|.mm rfl<|.n (zP (aR (by omega) (by omega)) (A3 rfl))<|.r 0 (xc 0 KP rfl zJ rfl)<|.mm rfl<|.n (zP (aR (by omega) (by omega)) (A3 rfl))<|.n (zP (RB (hz _ (by omega)) (hz _ (by omega))) (A2 rfl))<|.n (zP (LM) (A1 rfl))<|.n (oc rfl (.t rfl) (.k rfl) (show CT .eql (HT (qs.getD (i*n+j) 0-qs.getD (j*n+i) 0).num) 0=true by rw[he,Rat.sub_self];decide))<|.n (zP (Ji) ⟨(.t rfl),(.k rfl),trivial⟩)<|.nil) (fun _=>Di) rfl fun g8=>CZ 0 (E6 1 2 5 6 9 10 rfl) rfl ?_)
   refine zR<|zC<|(zG [] (.n (xo rfl (wo (by omega)))<|.m rfl<|.nil) ff rfl fun g9=>CZ 0 (E6 1 2 5 6 9 10 rfl) rfl ?_)
   exact yW (j+1) (by omega) (by omega) (Es (fun _=>E6 10 1 2 5 6 9 rfl) fun _=>R1 0 rfl)
  refine D6<|zE<|zE<|zS<|zR<|zC<|(zG [] (.n (xo rfl (wo (by omega)))<|.m rfl<|.nil) ff rfl fun g10=>CZ 0 (E3 1 5 6 rfl) rfl ?_)
  exact yW (i+1) (by omega) (by omega) (Es (fun _=>E3 6 1 5 rfl) fun _=>R1 0 rfl)
 refine D6<|zE<|zE<|zS<|IU<|zQ (.nil) (zM zL ?_)
 exact HS
theorem Qm{n:Int}:Ct prog 53 [I6 n] (CW (.bool (Oq n))):=by
 refine Ct.of func53 rfl (by kernel_rfl) rfl fun c0=>zV (.b rfl<|.nil) rfl fun g1=>CY (E1 0 rfl)<|zW (.m rfl<|.n (xd rfl)<|.m rfl<|.n (gu rfl (fun hC=>(xB rfl)))<|.n (gu rfl (fun hC=>(oc rfl (.w rfl hC) (.k rfl) rfl)))<|.n (EO (.t rfl) (fun h2=>(.w rfl h2)))<|.z rfl) rfl fun g2=>CY (E1 2 rfl)<|De<|DO rfl<|Ia (by unfold Oq CT;rfl)
theorem IZ{r c:Int}{xs:List Nat}:Ct prog 26 [EY r c xs] (I6 (Gs r c xs)):=by
 refine Ct.of func26 rfl (by kernel_rfl) rfl fun c0=>DS<|zV (.w 0 (xa 0 rfl yL rfl)<|.b rfl<|.nil) rfl fun g1=>CZ 0 (E1 1 rfl) rfl<|Dd<|zT<|zV (.n (xe Ev rfl)<|.r 0 (xf 0 Ez rfl zJ rfl)<|.n (zP (Qm) (A1 rfl))<|.n (EI (.t rfl))<|.m rfl<|.n (gu rfl (fun hC=>(xe EG rfl)))<|.r 0 (gu rfl (fun hC=>(zN 0 Ez (.w rfl hC) rfl zJ rfl)))<|.n (gu rfl (fun hC=>(zP (Qm) ⟨(.w rfl hC),trivial⟩)))<|.n (gu rfl (fun hC=>(EI (.w rfl hC))))<|.n (Fk (.t rfl) (fun h2=>(.w rfl h2)))<|.z rfl) rfl fun g2=>CZ 0 (E2 1 3 rfl) rfl<|zC<|zh rfl (fun h1=>?_) (fun h1=>?_)<;>try simp only[CT,Z]at h1
 ·refine zV (.b rfl<|.nil) rfl fun g3=>CY (E1 2 rfl)<|De<|yP<|zD<|DO rfl<|Dc (by unfold Gs;rw[if_pos h1])
 have hm:=(a1E h1).mul
 refine zV (.n (xe Ek rfl)<|.r 0 (xf 0 Eo rfl zJ rfl)<|.n (xv Dl rfl)<|.n (xe Ev rfl)<|.r 0 (xf 0 Ez rfl zJ rfl)<|.n (xe EG rfl)<|.r 0 (xf 0 Ez rfl zJ rfl)<|.n (xu rfl (wo (by omega)))<|.n (xw rfl)<|.z rfl) rfl fun g4=>CZ 0 (E2 1 14 rfl) rfl<|zC<|zh rfl (fun h2=>?_) (fun h2=>?_)<;>try simp only[CT,Z]at h2
 ·refine zV (.b rfl<|.nil) rfl fun g5=>CY (E1 2 rfl)<|De<|yP<|zD<|DO rfl<|Dc (by unfold Gs;rw[if_neg (by simp[h1]),if_pos h2])
 refine zV (.n (xe Ek rfl)<|.r 0 (xf 0 Eo rfl zJ rfl)<|.n (zP (Jj) (A1 rfl))<|.n (EI (.t rfl))<|.z rfl) rfl fun g6=>CY (E1 24 rfl)<|zC<|zh rfl (fun h3=>?_) (fun h3=>?_)<;>try simp only[CT,Z]at h3
 ·refine zV (.b rfl<|.nil) rfl fun g7=>CY (E1 2 rfl)<|De<|yP<|zD<|DO rfl<|Dc (by unfold Gs;rw[if_neg (by simp[h1]),if_neg (by simpa using h2),if_pos h3])
 refine yE<|zR<|zW (.b rfl<|.nil) rfl fun g8=>CY (E1 2 rfl)<|De<|DO rfl<|Dc (by unfold Gs;rw[if_neg (by simp[h1]),if_neg (by simpa using h2),if_neg (by simp[h3])])
theorem VS{es:List Int}:Ct prog 153 [DP .i64 es] (I6 (Ih es)):=by
 refine Ct.of func153 rfl (by kernel_rfl) rfl fun c0=>ER 0 rfl fun hlen=>zV (.b rfl<|.nil) rfl fun g1=>CY (E1 0 rfl)<|Dd<|zV (.m rfl<|.n (xv cy rfl)<|.n (zA (.k rfl))<|.nil) rfl fun g2=>CY (E3 5 6 7 rfl)<|zC<|zT<|D4 (α:=Nat) (fun k=>k≤es.length∧Ih es=Ih (es.drop k)) (fun k=>es.length-k) (fun k restR=>(7,I6 (k:Int))::restR) (fun k restS=>restS) (ρc:=[(5,_),(6,_)]) (σc:=[]) 0 (by exact⟨A7 _,rfl⟩) (Es (fun _=>E3 7 5 6 rfl) fun _=>R0) (fun k hI=>?_)
 obtain⟨hk,ha⟩:=hI
 refine zV (.n (xw rfl)<|.nil) rfl fun g3=>CY (E4 5 6 7 8 rfl)<|Dd<|zh rfl (fun h1=>?_) (fun h1=>?_)<;>try simp only[CT,Z]at h1
 ·refine yE<|Dd<|zT<|zV (.n (xx 0 cy rfl (by omega) (by omega))<|.n (xy UO rfl)<|.z rfl) rfl fun g4=>CY (E4 4 5 6 7 rfl)<|zW (.m rfl<|.n (xd rfl)<|.nil) rfl fun g5=>CY (E5 4 5 6 7 12 rfl)<|zC<|zh rfl (fun h2=>?_) (fun h2=>?_)<;>try simp only[CT,Z]at h2
  ·refine zV (.m rfl<|.z rfl) rfl fun g6=>CY (E1 2 rfl)<|De<|yP<|zD<|zD<|yP<|zD<|DO rfl<|Dc (by rw[ha,SX (by omega),if_neg (by simpa using h2)];rfl)
  refine yE<|zR<|zC<|(zG [] (.n (xo rfl (wo (by omega)))<|.m rfl<|.nil) ff rfl fun g7=>CY (E3 5 6 7 rfl) ?_)
  exact yW (k+1) (by exact⟨by omega,by rw[ha,SX (by omega)];rw[if_pos (by simpa using h2)]⟩) (by omega) (Es (fun _=>E3 7 5 6 rfl) fun _=>R0)
 refine D6<|zE<|zE<|zS<|zW (.b rfl<|.nil) rfl fun g8=>CY (E1 2 rfl)<|De<|DO rfl<|Dc (by rw[ha,BK (by omega)];rfl)
theorem dL{a b:Int}:Ct prog 153 [Mv 2 1 [I6 a,I6 b]] (I6 (Ih [a,b])):=VS (es:=[a,b])
theorem dM{a b d:Int}:Ct prog 153 [Mv 3 1 [I6 a,I6 b,I6 d]] (I6 (Ih [a,b,d])):=VS (es:=[a,b,d])
theorem cP{b:Bool}{e:Int}:Ct prog 154 [CW (.bool b),I6 e] (I6 (XT b e)):=by
 refine Ct.of func154 rfl (by kernel_rfl) rfl fun c0=>zV (.b rfl<|.nil) rfl fun g1=>CY (E2 0 1 rfl)<|Dd<|zV (.m rfl<|.nil) rfl fun g2=>CY (E2 1 5 rfl)<|zC<|zh rfl (fun h1=>?_) (fun h1=>?_)<;>try simp only[CT,Z]at h1
 ·refine zV (.m rfl<|.z rfl) rfl fun g3=>CY (E1 4 rfl)<|De<|zD<|DO rfl<|Dc (by rw[h1];rfl)
 refine yE<|zW (.b rfl<|.nil) rfl fun g4=>CY (E1 4 rfl)<|De<|DO rfl<|Dc (by rw[h1];rfl)
theorem ae{r c i j:Int}{xs:List Nat}(hg:Fc r c xs)(hp:Pl r c i j):Ct prog 56 [EY r c xs,I6 i,I6 j] (Dm (mat c xs i j)):=by
 refine Ct.of func56 rfl (by kernel_rfl) rfl fun c0=>?_
 have hq:=hp.rng hg.1
 have hl:=hg.2
 obtain⟨hs1,hs2,hs3,hs4⟩:=hg.1
 obtain⟨hp1,hp2,hp3,hp4⟩:=hp
 refine DS<|zV (.w 0 (xa 0 rfl yL rfl)<|.n (zB (Lk.fk rfl (by decide+kernel)))<|.nil) rfl fun g1=>CZ 0 (E3 1 2 3 rfl) rfl<|zW (.n (xe Ek rfl)<|.r 0 (xf 0 Eo rfl zJ rfl)<|.m rfl<|.n (xe EG rfl)<|.r 0 (xf 0 Ez rfl zJ rfl)<|.n (xu rfl (wo (by omega)))<|.m rfl<|.n (xq rfl (wo (by omega)))<|.n (xx 0 Dl rfl (by omega) (by omega))<|.n (xy Fp rfl)<|.z rfl) rfl fun g2=>CY (E1 6 rfl)<|De<|DO rfl<|zL
theorem wt{r c i:Int}{xs:List Nat}(hg:Fc r c xs)(i0:0≤i)(i1:i<r):Ct prog 196 [EY r c xs,I6 i] (Dp (G6 c xs i)):=by
 refine Ct.of func196 rfl (by kernel_rfl) rfl fun c0=>?_
 have hq:=hg.row i0 i1
 obtain⟨hs1,hs2,hs3,hs4⟩:=hg.1
 refine DS<|zV (.w 0 (xa 0 rfl yL rfl)<|.b rfl<|.nil) rfl fun g1=>CZ 0 (E2 1 2 rfl) rfl<|zW (.n (xe Ek rfl)<|.r 0 (xf 0 Eo rfl zJ rfl)<|.m rfl<|.n (xe EG rfl)<|.r 0 (xf 0 Ez rfl zJ rfl)<|.n (xu rfl (wo (by omega)))<|.m rfl<|.n (xo rfl (wo (by omega)))<|.n (xe EG rfl)<|.r 0 (xf 0 Ez rfl zJ rfl)<|.n (xu rfl (wo (by omega)))<|.n (Ni Dl (.t rfl) (.t rfl) (.t rfl) (by omega) (by omega) (by omega))<|.z rfl) rfl fun g2=>CY (E1 4 rfl)<|De<|DO rfl<|L8 (by rw[Nq hs3 hg.2 i0 i1])
theorem v7{xs ys:List Nat}(hl:xs.length≤ys.length):Ct prog 195 [Dp xs,Dp ys] (Dm (NJ xs ys)):=by
 refine Ct.of func195 rfl (by kernel_rfl) rfl fun c0=>ER 0 rfl fun hlen=>zV (.n (zB (Lk.fk rfl (by decide+kernel)))<|.nil) rfl fun g1=>CY (E2 0 1 rfl)<|zW (.n (zB (Lk.fk rfl (by decide+kernel)))<|.nil) rfl fun g2=>CY (E3 0 1 5 rfl)<|Dd<|zV (.m rfl<|.n (xv Dl rfl)<|.n (zA (.k rfl))<|.nil) rfl fun g3=>CY (E5 0 1 5 8 9 rfl)<|zC<|zT<|D4 (α:=Nat) (fun k=>k≤xs.length) (fun k=>xs.length-k) (fun k restR=>(5,Dm (VL xs ys k))::(9,I6 (k:Int))::restR) (fun k restS=>restS) (ρc:=[(0,_),(1,_),(8,_)]) (σc:=[]) 0 (by exact A7 _) (Es (fun _=>E5 5 9 0 1 8 rfl) fun _=>R0) (fun k hI=>?_)
 refine zV (.n (xw rfl)<|.nil) rfl fun g4=>CY (E6 0 1 5 8 9 10 rfl)<|Dd<|zh rfl (fun h1=>?_) (fun h1=>?_)<;>try simp only[CT,Z]at h1
 ·refine yE<|Dd<|zT<|zV (.m rfl<|.z rfl) rfl fun g5=>CY (E6 0 1 5 6 8 9 rfl)<|zC<|(zG [[],[],[],[1,2],[1,2,3],[],[],[5,6],[5,6,7],[1,2,3,4,5,6,7,8],[0,1,2,3,4,5,6,7,8,9],[0,1,2,3,4,5,6,7,8,9,10]] (.mm rfl<|.m rfl<|.n (xx 0 Dl rfl (by omega) (by omega))<|.n (xy Fp rfl)<|.mm rfl<|.n (xx 0 Dl rfl (by omega) (by omega))<|.n (xy Fp rfl)<|.n (xG (by simp) rfl)<|.n (xG (by simp) rfl)<|.z rfl) (fun _=>Di) rfl fun g6=>CY (E5 0 1 5 8 9 rfl) ?_)
  refine zR<|zC<|(zG [] (.n (xo rfl (wo (by omega)))<|.m rfl<|.nil) ff rfl fun g7=>CY (E5 0 1 5 8 9 rfl) ?_)
  exact yW (k+1) (by omega) (by omega) (Es (fun _=>E5 5 9 0 1 8 rfl) fun _=>R0)
 refine D6<|zE<|zE<|zS<|zW (.m rfl<|.z rfl) rfl fun g8=>CY (E1 4 rfl)<|De<|DO rfl<|bY (by rw[show k=xs.length by omega];rfl)
theorem iS{r c j:Int}{xs:List Nat}(hg:Fc r c xs)(i0:0≤j)(i1:j<c):Ct prog 193 [EY r c xs,I6 j] (Dp (Gn r c xs j)):=by
 refine Ct.of func193 rfl (by kernel_rfl) rfl fun c0=>?_
 obtain⟨hs1,hs2,hs3,hs4⟩:=hg.1
 refine DS<|zV (.w 0 (xa 0 rfl yL rfl)<|.b rfl<|.nil) rfl fun g1=>CZ 0 (E2 1 2 rfl) rfl<|zW (.b rfl<|.nil) rfl fun g2=>CZ 0 (E3 1 2 5 rfl) rfl<|Dd<|zV (.n (xe Ev rfl)<|.r 0 (xf 0 Ez rfl zJ rfl)<|.n (zA (.k rfl))<|.nil) rfl fun g3=>CZ 0 (E5 1 2 5 8 9 rfl) rfl<|zC<|zT<|DS<|D4 (α:=Nat×Value) (fun x=>x.1≤r.toNat) (fun x=>r.toNat-x.1) (fun x restR=>(9,I6 (x.1:Int))::(5,CW x.2)::restR) (fun x restS=>DC x.2 Dm ((Gn r c xs j).take x.1) 53::restS) (ρc:=[(1,_),(2,_),(8,_)]) (σc:=[_]) (0,.slice none 0 0) (by exact A7 _) (To.pick (fun _=>E5 9 5 1 2 8 rfl) (fun _=> .sub 1 rfl (FA)<|.k 0 rfl<|.nil) (ks:=[1,0]) rfl) (fun x hI=>?_)
 obtain⟨k,sv⟩:=x
 try simp only at hI
 show J _ _ ((9,I6 (k:Int))::(5,CW sv)::_) (DC sv Dm ((Gn r c xs j).take k) 53::_) _ _
 refine zV (.n (xw rfl)<|.nil) rfl fun g4=>nx (E6 1 2 5 8 9 10 rfl) (R2 0 1 rfl)<|Dd<|zh rfl (fun h1=>?_) (fun h1=>?_)<;>try simp only[CT,Z]at h1
 ·refine yE<|Dd<|zT<|zV (.m rfl<|.z rfl) rfl fun g5=>nx (E6 1 2 5 6 8 9 rfl) (R2 0 1 rfl)<|zC<|(zG [] (.m rfl<|.r 1 (xc 1 Dw rfl zJ rfl)<|.mm rfl<|.n (zP (ae hg ⟨by omega,by omega,i0,i1⟩) (A3 rfl))<|.n (xC Dl EL rfl (.g Dj rfl .nil))<|.w 0 (EC 0 Dl EL rfl (.t rfl) (.t rfl) rfl (by rw[A9,Fj];omega) (by rw[A9,Fj];omega))<|.n (yX rfl rfl)<|.nil) ff rfl fun g6=>nx (E5 1 2 5 8 9 rfl) (R2 0 1 rfl) ?_)
  refine zR<|zC<|(zG [] (.n (xo rfl (wo (by omega)))<|.m rfl<|.nil) ff rfl fun g7=>nx (E5 1 2 5 8 9 rfl) (R2 0 1 rfl) ?_)
  exact yW (k+1,g6 18) (by exact(show k+1≤r.toNat by omega)) (by show r.toNat-(_+1)<_;omega) (To.pick (fun _=>E5 9 5 1 2 8 rfl) (fun _=> .sub 0 rfl (yQ (by rw[show(Gn r c xs j).take (k+1)=(Gn r c xs j).take k++ [mat c xs k j]from Tu (by omega)]))<|.k 1 rfl<|.nil) (ks:=[0,1]) rfl)
 refine D6<|zE<|zE<|zS<|zW (.m rfl<|.z rfl) rfl fun g8=>CZ 0 (E1 4 rfl) rfl<|De<|D5 (To.freeze 0 (fun _ h=>h) rfl Dz rfl)<|zQ (.cons (.tmp (.t rfl))<|.nil) (zM (yD (Ed 0 rfl)) ?_)
 exact L8 (by rw[AN (by rw[Fj];omega)])
theorem VQ{r c:Int}{f:Int→Int→Nat}(hs:KK r c):OH prog 107 [I6 r,I6 c,yj (P:=prog) (Pl r c) (fun i j=>Dm (f i j))] (ZY 2) (fun u=>DL [I6 r,I6 c,CW u]) (fun u=>DC u Dm (GM r c f) 53):=by
 refine OH.of func107 rfl (by kernel_rfl) rfl fun c0=>?_
 have hm:=hs.mul
 have hn:=Ot hs
 have hs0:=hs
 obtain⟨hs1,hs2,hs3,hs4⟩:=hs
 refine DS<|zV (.w 0 (xj 0 EU rfl)<|.nil) rfl fun g1=>CZ 0 (E4 0 1 2 6 rfl) rfl<|zC<|yN (To.emps 2)<|zV (.mm rfl<|.mm rfl<|.n (xu rfl (wo (by omega)))<|.w 1 (DI (mk:=Dm) 0 1 Dl EL rfl (fun _=>FZ) (.k rfl) (.t rfl) (by omega) (by omega) (by omega) (by omega) rfl)<|.n (HP 15 16 rfl rfl rfl (fun f=>(D1 EU rfl Hp (.g D7 rfl (.g D7 rfl (.g D7 rfl .nil))))) (fun f g h=>by rw[h 15 (show 15∈ [15]from by decide)]) rfl)<|.w 2 (xj 2 EU rfl)<|.w 2 (Ey 2 rfl rfl rfl (fun f=>yL) (fun f g h=>by rw[h 15 (show 15∈ [15]from by decide)]) (fun _=>FB) rfl (fun _=>rfl) rfl)<|.nil) rfl fun g2=>nx (E5 0 1 2 6 7 rfl) (R3 0 1 2 rfl)<|Dd<|zV (.m rfl<|.n (zA (.k rfl))<|.nil) rfl fun g3=>nx (E6 1 2 6 7 17 18 rfl) (R3 0 1 2 rfl)<|zC<|zT<|D4 (α:=Nat×Value) (fun x=>x.1≤r.toNat) (fun x=>r.toNat-x.1) (fun x restR=>(18,I6 (x.1:Int))::restR) (fun x restS=>DC x.2 Dm ((GM r c f).take (x.1*c.toNat)) 53::Dh (g2 7) [I6 r,I6 c,CW x.2] 34::restS) (ρc:=[(1,_),(2,_),(6,_),(7,_),(17,_)]) (σc:=[_]) (0,g2 15) (by exact A7 _) (To.pick (fun _=>E6 18 1 2 6 7 17 rfl) (fun _=> .sub 1 rfl (yQ (by rw[BR,Bi];rfl))<|.sub 2 rfl (fun _ _ h=>h)<|.k 0 rfl<|.nil) (ks:=[1,2,0]) rfl) (fun x hI=>?_)
 obtain⟨k,sv⟩:=x
 try simp only at hI
 show J _ _ ((18,I6 (k:Int))::_) (DC sv Dm ((GM r c f).take (k*c.toNat)) 53::Dh (g2 7) [I6 r,I6 c,CW sv] 34::_) _ _
 refine zV (.n (xw rfl)<|.nil) rfl fun g4=>nx (E7 1 2 6 7 17 18 19 rfl) (R3 0 1 2 rfl)<|Dd<|zh rfl (fun h1=>?_) (fun h1=>?_)<;>try simp only[CT,Z]at h1
 ·refine yE<|Dd<|zT<|zV (.m rfl<|.z rfl) rfl fun g5=>nx (E7 1 2 6 7 8 17 18 rfl) (R3 0 1 2 rfl)<|zW (.m rfl<|.n (zA (.k rfl))<|.nil) rfl fun g6=>nx (E9 1 2 6 7 8 17 18 21 22 rfl) (R3 0 1 2 rfl)<|zC<|zT<|D4 (α:=Nat×Value) (fun y=>y.1≤c.toNat) (fun y=>c.toNat-y.1) (fun y restR=>(22,I6 (y.1:Int))::restR) (fun y restS=>DC y.2 Dm ((GM r c f).take (k*c.toNat+y.1)) 53::Dh (g2 7) [I6 r,I6 c,CW y.2] 34::restS) (ρc:=[(1,_),(2,_),(6,_),(7,_),(8,_),(17,_),(18,_),(21,_)]) (σc:=[_]) (0,sv) (by exact A7 _) (Es (fun _=>E9 22 1 2 6 7 8 17 18 21 rfl) fun _=>R3 0 1 2 rfl) (fun y hI=>?_)
  obtain⟨m,tv⟩:=y
  try simp only at hI
  show J _ _ ((22,I6 (m:Int))::_) (DC tv Dm ((GM r c f).take (k*c.toNat+m)) 53::Dh (g2 7) [I6 r,I6 c,CW tv] 34::_) _ _
  refine zV (.n (xw rfl)<|.nil) rfl fun g7=>nx (I4 1 2 6 7 8 17 18 21 22 23 rfl) (R3 0 1 2 rfl)<|Dd<|zh rfl (fun h2=>?_) (fun h2=>?_)<;>try simp only[CT,Z]at h2
  ·refine yE<|Dd<|zT<|zV (.m rfl<|.z rfl) rfl fun g8=>nx (I4 1 2 6 7 8 9 17 18 21 22 rfl) (R3 0 1 2 rfl)<|zC<|(zG [[],[0],[],[],[],[2,3,4],[2,3,4,5],[0,1,2,3,4,5,6],[0,1,2,3,4,5,6,7],[0,1,2,3,4,5,6,7,8]] (.n (xe Ek rfl)<|.r 1 (xf 1 Eo rfl zJ rfl)<|.mm rfl<|.m rfl<|.n (lr (P:=prog) (.t rfl) (.t rfl) (.t rfl) ⟨by omega,by omega,by omega,by omega⟩)<|.n (xC Dl EL rfl (.g Dj rfl .nil))<|.w 0 (EC 0 Dl EL rfl (.t rfl) (.t rfl) rfl (by have:= @Oz r c f (k*c.toNat+m) hs0;show(List.take (k*c.toNat+m) _).length+1≤_;omega) (by have:= @Oz r c f (k*c.toNat+m) hs0;show((List.take (k*c.toNat+m) _).length+1)*_≤_;omega))<|.n (xe Ek rfl)<|.w 1 (EJ 1 (.t rfl) rfl PU rfl rfl)<|.nil) (fun _=>Di) rfl fun g9=>nx (E9 1 2 6 7 8 17 18 21 22 rfl) (R3 0 1 2 rfl) ?_)
   refine zR<|zC<|(zG [] (.n (xo rfl (wo (by omega)))<|.m rfl<|.nil) ff rfl fun g10=>nx (E9 1 2 6 7 8 17 18 21 22 rfl) (R3 0 1 2 rfl) ?_)
   exact yW (m+1,g9 32) (by exact(show m+1≤c.toNat by omega)) (by show c.toNat-(_+1)<_;omega) (To.pick (fun _=>E9 22 1 2 6 7 8 17 18 21 rfl) (fun _=> .sub 0 rfl (yQ (by rw[show(GM r c f).take (k*c.toNat+(m+1))=_ from Mw (by omega) (by omega)]))<|.sub 1 rfl (fun _ _ h=>h)<|.k 2 rfl<|.nil) (ks:=[0,1,2]) rfl)
  refine D6<|zE<|zE<|zS<|zR<|zC<|(zG [] (.n (xo rfl (wo (by omega)))<|.m rfl<|.nil) ff rfl fun g11=>nx (E6 1 2 6 7 17 18 rfl) (R3 0 1 2 rfl) ?_)
  exact yW (k+1,tv) (by exact(show k+1≤r.toNat by omega)) (by show r.toNat-(_+1)<_;omega) (To.pick (fun _=>E6 18 1 2 6 7 17 rfl) (fun _=> .sub 0 rfl (yQ (by rw[show(k+1)*c.toNat=k*c.toNat+m by rw[AO,B5];omega]))<|.sub 1 rfl (fun _ _ h=>h)<|.k 2 rfl<|.nil) (ks:=[0,1,2]) rfl)
 refine D6<|zE<|zE<|zS<|zW (.r 1 (xc 1 Dw rfl zJ rfl)<|.w 2 (xn 2 rfl yL FB rfl)<|.nil) rfl fun g12=>nx (E1 6 rfl) (R2 0 2 rfl)<|De<|D5 (To.res 0 (r':=DC sv Dm (GM r c f) 53) rfl (yQ (by rw[show k=r.toNat by omega,Sv])) rfl)<|HD (u:=sv) 0 rfl rfl (.ag 1 (.t rfl) Dw rfl rfl rfl) (OL rfl)<|zL
theorem aL{r c:Int}{f:Int→Int→Nat}(hs:KK r c):Ct prog 107 [I6 r,I6 c,yj (P:=prog) (Pl r c) (fun i j=>Dm (f i j))] (EY r c (GM r c f)):=(VQ hs).ct (fun u=>Dz) fun u=>Dx (.cons zL<|.cons zL<|.cons (Ed 0 rfl)<|.nil)
theorem sI{r c:Int}{xs:List Nat}:Ct prog 155 [EY r c xs] (Xd (M0 r c xs)):=by
 refine Ct.of func155 rfl (by kernel_rfl) rfl fun c0=>yN (To.emps 2)<|zV (.w 0 (xa 0 rfl yL rfl)<|.w 1 (xj 1 EU rfl)<|.b rfl<|.nil) rfl fun g1=>nx (E2 1 2 rfl) (R2 0 1 rfl)<|Dd<|zV (.n (xe Ek rfl)<|.r 0 (xf 0 Eo rfl zJ rfl)<|.n (zP (Jj) (A1 rfl))<|.n (EI (.t rfl))<|.nil) rfl fun g2=>nx (E3 1 2 7 rfl) (R2 0 1 rfl)<|zC<|zh rfl (fun h1=>?_) (fun h1=>?_)<;>try simp only[CT,Z]at h1
 ·refine zV (.n (D1 EU rfl Hp .nil)<|.w 1 (xn 1 rfl yL FB rfl)<|.b rfl<|.nil) rfl fun g3=>CZ 1 (E2 2 3 rfl) rfl<|De<|zD<|zQ (.cons (.ag 0 (.t rfl) Dw rfl rfl rfl)<|.cons (.tmp (.t rfl))<|.nil) (zM (Dk (.cons (Dx (.cons zL<|.cons zL<|.cons (Dr (mk:=Dm))<|.nil))<|.cons zL<|.nil)) ?_)
  exact MJ (by unfold M0;rw[if_pos h1];rfl)
 refine yE<|zW (.r 0 (xc 0 Dw rfl zJ rfl)<|.w 1 (xn 1 rfl yL FB rfl)<|.b rfl<|.nil) rfl fun g4=>CZ 1 (E2 2 3 rfl) rfl<|De<|zQ (.cons (.ag 0 (.t rfl) Dw rfl rfl rfl)<|.cons (.tmp (.t rfl))<|.nil) (zM (Dk (.cons zL<|.cons zL<|.nil)) ?_)
 exact MJ (by unfold M0;rw[if_neg (by simp[h1])])
theorem ZH:V9 prog 162:=⟨_,func162,rfl,by kernel_rfl⟩
theorem wJ{r c i j:Int}{xs:List Nat}(hg:Fc r c xs)(hp:Pl c r i j):Ct prog 162 [I6 i,I6 j,Gf [I6 r,I6 c,Dp xs]] (Dm (mat c xs j i)):=by
 refine Ct.of func162 rfl (by kernel_rfl) rfl fun c0=>zV (.n (zB (Lk.fk rfl (by decide+kernel)))<|.nil) rfl fun g1=>CY (E3 0 1 2 rfl)<|zW (.n (DB Dw (.t rfl) rfl rfl)<|.mm rfl<|.n (zP (ae hg hp.turn) (A3 rfl))<|.z rfl) rfl fun g2=>CY (E1 5 rfl)<|De<|DO rfl<|zL
theorem a0x{r c:Int}{xs:List Nat}:Ct prog 116 [EY r c xs] (Xd (tY r c xs)):=by
 refine Ct.of func116 rfl (by kernel_rfl) rfl fun c0=>yN (To.emps 2)<|zV (.w 0 (xa 0 rfl yL rfl)<|.w 1 (xj 1 EU rfl)<|.b rfl<|.nil) rfl fun g1=>nx (E2 1 2 rfl) (R2 0 1 rfl)<|Dd<|zV (.r 0 (xc 0 Dw rfl zJ rfl)<|.n (zP (IZ) (A1 rfl))<|.z rfl) rfl fun g2=>nx (E3 1 2 4 rfl) (R2 0 1 rfl)<|zW (.m rfl<|.n (xd rfl)<|.nil) rfl fun g3=>nx (E4 1 2 4 8 rfl) (R2 0 1 rfl)<|zC<|zh rfl (fun h1=>?_) (fun h1=>?_)<;>try simp only[CT,Z]at h1
 ·refine zV (.n (D1 EU rfl Hp .nil)<|.m rfl<|.w 1 (xn 1 rfl yL FB rfl)<|.z rfl) rfl fun g4=>CZ 1 (E2 2 3 rfl) rfl<|De<|zD<|zQ (.cons (.ag 0 (.t rfl) Dw rfl rfl rfl)<|.cons (.tmp (.t rfl))<|.nil) (zM (Dk (.cons (Dx (.cons zL<|.cons zL<|.cons (Dr (mk:=Dm))<|.nil))<|.cons zL<|.nil)) ?_)
  exact MJ (by unfold tY tA;exact(if_neg h1).symm)
 have hg:=Eg h1
 refine yE<|zC<|yN (To.freeze 0 (fun _ h=>h) rfl Dv rfl)<|zV (.n (xe EG rfl)<|.n (yC Ez (Lk.sub (DN 0 1 rfl rfl) (.t rfl)) rfl)<|.n (xe Ev rfl)<|.n (yC Ez (Lk.sub (DN 0 1 rfl rfl) (.t rfl)) rfl)<|.n (PB (C:=Pl c r) (g:=fun i j=>Dm (mat c xs j i)) (fun i j hC=>wJ hg hC) ⟨(Lk.sub (DN 0 3 rfl rfl) (.t rfl)),trivial⟩ ZH)<|.n (zP (aL hg.1.turn) (A3 rfl))<|.w 1 (xn 1 rfl yL FB rfl)<|.b rfl<|.nil) rfl fun g5=>CZ 1 (E2 2 3 rfl) rfl<|De<|zQ (.cons (.ag 0 (.t rfl) Dw rfl rfl rfl)<|.cons (.tmp (.t rfl))<|.nil) (zM (Dk (.cons zL<|.cons zL<|.nil)) ?_)
 exact MJ (by unfold tY tA;exact(if_pos h1).symm)
theorem Uz:V9 prog 194:=⟨_,func194,rfl,by kernel_rfl⟩
theorem mb{r c c' i j:Int}{xs ys:List Nat}{l:List (List Nat)}(hg:Fc r c xs)(hl:Ve c c' ys c'.toNat l)(hp:Pl r c' i j):Ct prog 194 [I6 i,I6 j,Gf [I6 r,I6 c,Dp xs],Gf [I2 (I2 Dm) l]] (Dm (NJ (G6 c xs i) (Gn c c' ys j))):=by
 refine Ct.of func194 rfl (by kernel_rfl) rfl fun c0=>?_
 obtain⟨hp1,hp2,hp3,hp4⟩:=hp
 have hj:=hl.2 j.toNat (by omega)
 have hl1:=hl.1
 have hc1:=hg.1.2.2.1
 refine zV (.n (zB (Lk.fk rfl (by decide+kernel)))<|.nil) rfl fun g1=>CY (E4 0 1 2 3 rfl)<|zC<|zF (zG [[],[],[0,1],[],[],[3,4],[3,4,5],[0,1,2,3,4,5,6],[0,1,2,3,4,5,6,7]] (.n (DB Dw (.t rfl) rfl rfl)<|.m rfl<|.n (zP (wt hg (by omega) (by omega)) (A2 rfl))<|.n (xy a04 rfl)<|.m rfl<|.n (xx [] Lb rfl (by omega) (by omega))<|.n (xy Eo rfl)<|.n (zP (v7 (by rw[hj,Fv,Fj];exact A5 _)) (A2 rfl))<|.z rfl) (fun _=>Di) rfl fun g2=>CY (E1 6 rfl) ?_)
 refine De<|DO rfl<|bY (by rw[hj,show((j.toNat:Nat):Int)=j by omega])
theorem ry{r c r' c':Int}{xs ys:List Nat}(hg:Fc r c xs)(hg':Fc c c' ys)(he:r'=c):Ct prog 156 [EY r c xs,EY r' c' ys] (EY r c' (K1 r c xs c' ys)):=by
 refine Ct.of func156 rfl (by kernel_rfl) rfl fun c0=>?_
 subst he
 have hn:=hg'.1.2.2.1
 have hn':=hg'.1.2.2.2
 refine yN (To.emps 3)<|zV (.w 0 (xa 0 rfl yL rfl)<|.w 1 (xa 1 rfl yL rfl)<|.w 2 (xj 2 EU rfl)<|.nil) rfl fun g1=>nx (E3 2 3 4 rfl) (R3 0 1 2 rfl)<|zC<|yN (To.emps 2)<|zV (.n (xe EG rfl)<|.r 1 (xf 1 Ez rfl zJ rfl)<|.w 3 (DI (mk:=(I2 Dm)) [] 3 Lb OE rfl (fun _=>cA) (.t rfl) (.t rfl) (by omega) (by omega) (by omega) (by omega) rfl)<|.w 4 (xj 4 a1O rfl)<|.w 4 (Ey 4 rfl rfl rfl (fun f=>D7) (fun f g h=>by rw[h 9 (show 9∈ [9]from by decide)]) (fun _=>a1K) rfl (fun _=>rfl) rfl)<|.nil) rfl fun g2=>nx (E4 2 3 4 5 rfl) (R5 0 1 2 3 4 rfl)<|Dd<|zV (.n (xe EG rfl)<|.r 1 (xf 1 Ez rfl zJ rfl)<|.n (zA (.k rfl))<|.nil) rfl fun g3=>nx (E6 2 3 4 5 11 12 rfl) (R5 0 1 2 3 4 rfl)<|zC<|zT<|D4 (α:=Nat×List (List Nat)) (fun x=>x.1≤c'.toNat∧Ve r' c' ys x.1 x.2) (fun x=>c'.toNat-x.1) (fun x restR=>(12,I6 (x.1:Int))::restR) (fun x restS=>DC (g2 9) (I2 Dm) x.2 32::restS) (ρc:=[(2,_),(3,_),(4,_),(5,_),(11,_)]) (σc:=[_,_,_,_]) (0,List.replicate c'.toNat []) (by exact⟨A7 _,dy⟩) (Es (fun _=>E6 12 2 3 4 5 11 rfl) fun _=>R5 3 0 1 2 4 rfl) (fun x hI=>?_)
 obtain⟨k,l⟩:=x
 try simp only at hI
 show J _ _ ((12,I6 (k:Int))::_) (DC (g2 9) (I2 Dm) l 32::_) _ _
 have hl1:=hI.2.1
 refine zV (.n (xw rfl)<|.nil) rfl fun g4=>nx (E7 2 3 4 5 11 12 13 rfl) (R5 0 1 2 3 4 rfl)<|Dd<|zh rfl (fun h1=>?_) (fun h1=>?_)<;>try simp only[CT,Z]at h1
 ·refine yE<|Dd<|zT<|zV (.m rfl<|.z rfl) rfl fun g5=>nx (E7 2 3 4 5 6 11 12 rfl) (R5 0 1 2 3 4 rfl)<|zC<|(zG [[],[],[],[],[2,3],[0,1,2,3,4],[0,1,2,3,4,5]] (.r 4 (xf 4 a04 rfl zJ rfl)<|.m rfl<|.r 2 (xc 2 Dw rfl zJ rfl)<|.m rfl<|.n (zP (iS hg' (by omega) (by omega)) (A2 rfl))<|.r 0 (xz 0 Lb rfl (by omega) (by omega))<|.w 0 (xA 0 rfl FP PU rfl (by omega))<|.nil) (fun _=>Di) rfl fun g6=>nx (E6 2 3 4 5 11 12 rfl) (R5 0 1 2 3 4 rfl) ?_)
  refine zR<|zC<|(zG [] (.n (xo rfl (wo (by omega)))<|.m rfl<|.nil) ff rfl fun g7=>nx (E6 2 3 4 5 11 12 rfl) (R5 0 1 2 3 4 rfl) ?_)
  exact yW (k+1,l.set k (Gn r' c' ys k)) (by exact⟨show k+1≤_ by omega,iT hI.2 (by omega)⟩) (by show c'.toNat-(_+1)<_;omega) (Es (fun _=>E6 12 2 3 4 5 11 rfl) fun _=>R5 0 1 2 3 4 rfl)
 refine D6<|zE<|zE<|zS<|zC<|yN (To.freeze 1 (fun _ h=>h) rfl Dv rfl)<|yN (To.freeze 0 (fun _ h=>h) rfl Dz rfl)<|yN (To.freeze 4 (fun _ h=>h) rfl Dv rfl)<|zV (.n (xe Ev rfl)<|.n (yC Ez (Lk.sub (DN 2 1 rfl rfl) (.t rfl)) rfl)<|.n (xe EG rfl)<|.r 2 (xf 2 Ez rfl zJ rfl)<|.n (PB (C:=Pl r c') (g:=fun i j=>Dm (NJ (G6 r' xs i) (Gn r' c' ys j))) (fun i j hC=>mb hg (show k=c'.toNat by omega▸hI.2) hC) ⟨(Lk.sub (DN 2 3 rfl rfl) (.t rfl)),(Lk.sub (zM (DN 0 1 rfl rfl) (mX (.cons (Ed 1 rfl)<|.nil))) (.t rfl)),trivial⟩ Uz)<|.n (zP (aL (hg.1.mk2 hg'.1)) (A3 rfl))<|.w 3 (xn 3 rfl yL FB rfl)<|.nil) rfl fun g8=>CZ 3 (E1 4 rfl) rfl<|De<|zQ (.cons (.ag 0 (.t rfl) Dw rfl rfl rfl)<|.nil) (zM (yD zL) ?_)
 exact zL
theorem vK{r c r' c':Int}{xs ys:List Nat}:Ct prog 114 [EY r c xs,EY r' c' ys] (Xd (F5 r c xs r' c' ys)):=by
 refine Ct.of func114 rfl (by kernel_rfl) rfl fun c0=>yN (To.emps 3)<|zV (.w 0 (xa 0 rfl yL rfl)<|.w 1 (xa 1 rfl yL rfl)<|.w 2 (xj 2 EU rfl)<|.b rfl<|.nil) rfl fun g1=>nx (E3 2 3 4 rfl) (R3 0 1 2 rfl)<|Dd<|zF (zG [[],[0],[],[0,1,2],[],[4],[],[6],[4,5,6,7],[0,1,2,3,4,5,6,7,8],[0,1,2,3,4,5,6,7,8,9],[0,1,2,3,4,5,6,7,8,9,10],[0,1,2,3,4,5,6,7,8,9,10,11]] (.r 0 (xc 0 Dw rfl zJ rfl)<|.n (zP (IZ) (A1 rfl))<|.r 1 (xc 1 Dw rfl zJ rfl)<|.n (zP (IZ) (A1 rfl))<|.n (xe EG rfl)<|.r 0 (xf 0 Ez rfl zJ rfl)<|.n (xe Ev rfl)<|.r 1 (xf 1 Ez rfl zJ rfl)<|.n (xw rfl)<|.n (zP (cP) ⟨(.t rfl),(.k rfl),trivial⟩)<|.n (xC cy ou rfl (.g D7 rfl (.g D7 rfl (.g D7 rfl .nil))))<|.n (zP (dM) (A1 rfl))<|.z rfl) (fun _=>Di) rfl fun g2=>nx (E4 2 3 4 6 rfl) (R3 0 1 2 rfl) ?_)
 refine zW (.m rfl<|.n (xd rfl)<|.nil) rfl fun g3=>nx (E5 2 3 4 6 20 rfl) (R3 0 1 2 rfl)<|zC<|zh rfl (fun h1=>?_) (fun h1=>?_)<;>try simp only[CT,Z]at h1
 ·refine zV (.n (D1 EU rfl Hp .nil)<|.m rfl<|.w 2 (xn 2 rfl yL FB rfl)<|.z rfl) rfl fun g4=>CZ 2 (E2 4 5 rfl) rfl<|De<|zD<|zQ (.cons (.ag 0 (.t rfl) Dw rfl rfl rfl)<|.cons (.tmp (.t rfl))<|.nil) (zM (Dk (.cons (Dx (.cons zL<|.cons zL<|.cons (Dr (mk:=Dm))<|.nil))<|.cons zL<|.nil)) ?_)
  exact MJ (by unfold F5 tA;exact(if_neg h1).symm)
 obtain⟨hg,hg',e1,_,_⟩:=eI h1
 refine yE<|zW (.r 0 (xc 0 Dw rfl zJ rfl)<|.r 1 (xc 1 Dw rfl zJ rfl)<|.n (zP (ry hg hg' e1) (A2 rfl))<|.n (zP (sI) (A1 rfl))<|.n (xk rfl)<|.n (xk rfl)<|.w 2 (xn 2 rfl yL FB rfl)<|.z rfl) rfl fun g5=>CZ 2 (E2 4 5 rfl) rfl<|De<|zQ (.cons (.ag 0 (.t rfl) Dw rfl rfl rfl)<|.cons (.tmp (.t rfl))<|.nil) (zM (Dk (.cons zL<|.cons zL<|.nil)) ?_)
 exact MJ (by unfold F5 tA;exact(if_pos h1).symm)
end Go.Proofs.YtgfanjebfjeneaaGreatDoor
