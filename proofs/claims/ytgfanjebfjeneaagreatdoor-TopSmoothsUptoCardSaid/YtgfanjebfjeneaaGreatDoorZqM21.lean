/- Printed by a program of ours (walk.py): walks of looking back: a deferred step. -/
import Derived.Test.YtgfanjebfjeneaaGreatDoorZqM1
import Derived.Test.YtgfanjebfjeneaaGreatDoorProg
import Derived.KernelRfl
import Derived.Test.YtgfanjebfjeneaaGreatDoorZqM11
import Derived.Test.YtgfanjebfjeneaaGreatDoorZqM20
import Derived.Test.YtgfanjebfjeneaaGreatDoorZqM10
import Derived.Test.YtgfanjebfjeneaaGreatDoorZqM12
import Derived.Test.YtgfanjebfjeneaaGreatDoorZqM3
import Derived.Test.YtgfanjebfjeneaaGreatDoorZqM2
set_option linter.unusedVariables false
set_option linter.unusedSimpArgs false
set_option maxRecDepth 20000
set_option maxHeartbeats 8000000
namespace Go.Proofs.YtgfanjebfjeneaaGreatDoor
open Go Go.Bn Go.Proofs.Tryz
attribute [local irreducible] OpOK
theorem fU{E PL O sv:Value}{TE TP TS T:TypeId}{l:List Hm}{n:Int}{i q:Nat}(hl:TC l n)(hi:i+q+1=l.length):gQ prog 40 [DW E 0,Gf [I6 (i:Int)],Gf [Lq 11 Nw l],DW O 0,DW PL 0] (gR E PL O sv TE TP TS T (F0 l n q)) (gR E PL O sv TE TP TS T (F0 l n (q+1))):=by
 refine gQ.of func40 rfl (by kernel_rfl) rfl (NO (by rw[G9,G9])) fun c0 ob hr0=>?_
 have hlm:=hl.m
 have hol:=G9 (l:=l) (n:=n) q
 have hil:i=l.length-1-q:=by omega
 refine zT<|yN (To.res 0 (r':=(Dh E [I6 ((F0 l n q).e)] TE).sep ((Dh PL [I6 ((F0 l n q).p)] TP).sep ((Dh O [CW (Va (F0 l n q) sv)] TS).sep (Gd sv 5 KM ((F0 l n q).o) T)))) rfl (fun _ _ h=>h) rfl)<|yN (To.emps 3)<|yN (To.split 0 1 rfl rfl rfl rfl)<|yN (To.split 1 2 rfl rfl rfl rfl)<|yN (To.split 2 3 rfl rfl rfl rfl)<|zV (.r 0 (xf 0 UO rfl zJ rfl)<|.n (xd rfl)<|.z rfl) rfl fun g1=>nx (E6 0 1 2 3 4 30 rfl) (R4 0 1 2 3 rfl)<|zC<|zh rfl (fun h1=>?_) (fun h1=>?_)<;>try simp only[CT,Z]at h1
 ·have he1:(F0 l n q).e≠0:=h1
  refine yE<|zR<|IU<|D5 (To.res 0 (r':=Dh E [I6 ((F0 l n (q+1)).e)] TE) rfl (yQ (by rw[Km he1])) rfl)<|D5 (To.res 1 (r':=Dh PL [I6 ((F0 l n (q+1)).p)] TP) rfl (yQ (by rw[Km he1])) rfl)<|D5 (To.res 2 (r':=Dh O [CW (Va (F0 l n (q+1)) sv)] TS) rfl (yQ (by rw[Km he1])) rfl)<|D5 (To.res 3 (r':=Gd sv 5 KM ((F0 l n (q+1)).o) T) rfl (yQ (by rw[Km he1])) rfl)<|D5 (To.join 2 3 rfl rfl rfl rfl)<|D5 (To.join 1 2 rfl rfl rfl rfl)<|D5 (To.join 0 1 rfl rfl rfl rfl)<|D5 (To.res 0 (r':=gR E PL O sv TE TP TS T (F0 l n (q+1))) rfl (fun _ _ h=>h) rfl)<|Db 0 hr0 (NO (by rw[G9,G9])) rfl (.nil) (zM zL ?_)
  exact HS
 have he0:(F0 l n q).e=0:=h1
 refine yN (To.res 2 (r':=Dh O [CW (sv)] TS) rfl (yQ (by rw[ah he0])) rfl)<|zV (.n (xy Ez rfl)<|.n (xy fV rfl)<|.n (Ef La (.t rfl))<|.n (xh rfl (wo (by omega)))<|.n (xw rfl)<|.z rfl) rfl fun g2=>nx (E6 0 1 2 3 4 33 rfl) (R4 0 1 2 3 rfl)<|zC<|zh rfl (fun h2=>?_) (fun h2=>?_)<;>try simp only[CT,Z]at h2
 ·have hq:q=0:=by omega
  obtain⟨hr1,hk1⟩:=hl.at' i (by omega)
  obtain⟨hc1,hc2,hc3,hc4,hc5,hc6⟩:=hk1.post hr1
  have hcg:=Eg hc4
  obtain⟨hs1,hs2,_,_⟩:=hcg.1
  have hcm:=hcg.1.mul
  have hcl:=hcg.2
  refine(zG [[],[],[],[],[2,3],[2,3,4],[2,3,4,5],[2,3,4,5,6],[2,3,4,5,6,7],[0,1,2,3,4,5,6,7,8],[0,1,2,3,4,5,6,7,8,9]] (.r 2 (xf 2 fW rfl zJ rfl)<|.n (xy Ez rfl)<|.n (xy fV rfl)<|.n (xy Ez rfl)<|.n (DX (mk:=Nw) Hg La JX (.t rfl) (.t rfl) (by omega) (by omega))<|.n (xF LC rfl)<|.n (DB Fl (.t rfl) rfl rfl)<|.n (zP (cp (s:=(l.getD i Hg).q) (by omega) (by omega)) (A1 rfl))<|.n (D1 Sd rfl lS (.cons rfl (.t rfl) yL rfl (yU rfl (A8 rfl)) .nil))<|.r 3 (LP 3 Kh (.t rfl) (.t rfl) rfl (by omega) (by omega))<|.w 3 (MG (v:=⟨(l.getD i Hg).q,false⟩) (j:=i) 3 HU (.t rfl) (by rw[Ar]) (.t rfl) gH rfl (by omega))<|.nil) (fun _=>Di) rfl fun g3=>nx (E0) (R4 0 1 2 3 rfl) ?_)
  refine zR<|IU<|D5 (To.res 0 (r':=Dh E [I6 ((F0 l n (q+1)).e)] TE) rfl (yQ (by subst hq;rw[HF];rfl)) rfl)<|D5 (To.res 1 (r':=Dh PL [I6 ((F0 l n (q+1)).p)] TP) rfl (yQ (by subst hq;rw[HF];rfl)) rfl)<|D5 (To.res 2 (r':=Dh O [CW (Va (F0 l n (q+1)) sv)] TS) rfl (yQ (by rw[ah (by subst hq;rw[HF])])) rfl)<|D5 (To.res 3 (r':=Gd sv 5 KM ((F0 l n (q+1)).o) T) rfl (yQ (by subst hq;rw[HF,hil];rfl)) rfl)<|D5 (To.join 2 3 rfl rfl rfl rfl)<|D5 (To.join 1 2 rfl rfl rfl rfl)<|D5 (To.join 0 1 rfl rfl rfl rfl)<|D5 (To.res 0 (r':=gR E PL O sv TE TP TS T (F0 l n (q+1))) rfl (fun _ _ h=>h) rfl)<|Db 0 hr0 (NO (by rw[G9,G9])) rfl (.nil) (zM zL ?_)
  exact HS
 have hq:q≠0:=by omega
 obtain⟨hr1,hk1⟩:=hl.at' i (by omega)
 obtain⟨hr2,hk2⟩:=hl.at' (i+1) (by omega)
 obtain⟨hc1,hc2,hc3,hc4,hc5,hc6⟩:=hk1.post hr1
 obtain⟨hd1,hd2,hd3,hd4⟩:=hk2.pred hr2
 have hm2:=hk2.mat hr2
 have hso:=ai hl q (by omega) he0 (i+1) (by omega) (by omega)
 refine zF (zG [[],[],[],[],[2,3],[2,3,4],[],[],[7],[6,7,8],[6,7,8,9],[],[],[12],[11,12,13],[11,12,13,14],[11,12,13,14,15],[2,3,4,5,6,7,8,9,10,11,12,13,14,15,16],[2,3,4,5,6,7,8,9,10,11,12,13,14,15,16,17],[2,3,4,5,6,7,8,9,10,11,12,13,14,15,16,17,18],[2,3,4,5,6,7,8,9,10,11,12,13,14,15,16,17,18],[0,1,2,3,4,5,6,7,8,9,10,11,12,13,14,15,16,17,18,19],[0,1,2,3,4,5,6,7,8,9,10,11,12,13,14,15,16,17,18,19,21],[0,1,2,3,4,5,6,7,8,9,10,11,12,13,14,15,16,17,18,19,20,21,22]] (.r 2 (xf 2 fW rfl zJ rfl)<|.n (xy Ez rfl)<|.n (xy fV rfl)<|.n (xy Ez rfl)<|.n (DX (mk:=Nw) Hg La JX (.t rfl) (.t rfl) (by omega) (by omega))<|.n (DB oM (.t rfl) rfl rfl)<|.n (xy fV rfl)<|.n (xy Ez rfl)<|.n (xo rfl (wo (by omega)))<|.n (DX (mk:=Nw) Hg La JX (.t rfl) (.t rfl) (by omega) (by omega))<|.n (DB oM (.t rfl) rfl rfl)<|.r 2 (xf 2 fW rfl zJ rfl)<|.n (xy Ez rfl)<|.n (xo rfl (wo (by omega)))<|.r 3 (LP 3 Kh (.t rfl) (.t rfl) rfl (by omega) (by omega))<|.n (xe N2 rfl)<|.r 3 (Z5 HU FS (j:=i+1) (o:=0) 3 Fl (.t rfl) (by rw[show((i:Nat):Int)+1=((i+1:Nat):Int) by omega,Ar]) rfl (by omega) rfl rfl)<|.n (zP (nD hc4 hc5 (Eg hm2) hc3 hd3 (Eg hd4) hso.xl (Eg hso.k)) ⟨(Lk.sub (D3 (show DL (Nw (l.getD i Hg))=DL [I6 n,I6 n,Dp (l.getD i Hg).f,Dp (l.getD i Hg).p.x,I6 n,I6 n,Dp (l.getD i Hg).p.a,Dp (l.getD i Hg).q.x,I6 n,I6 n,Dp (l.getD i Hg).q.a]from congrArg DL (hk1.cells hr1))) (.t rfl)),(Lk.sub (D3 (show DL (Nw (l.getD (((i:Nat):Int)+1).toNat Hg))=DL [I6 n,I6 n,Dp (l.getD (i+1) Hg).f,Dp (l.getD (i+1) Hg).p.x,I6 n,I6 n,Dp (l.getD (i+1) Hg).p.a,Dp (l.getD (i+1) Hg).q.x,I6 n,I6 n,Dp (l.getD (i+1) Hg).q.a]from by rw[show(((i:Nat):Int)+1).toNat=i+1 by omega];exact congrArg DL (hk2.cells hr2))) (.t rfl)),(Lk.sub (D3 (show DL [Dp ((F0 l n q).o.getD (i+1) FS).s.x,I6 ((F0 l n q).o.getD (i+1) FS).s.r,I6 ((F0 l n q).o.getD (i+1) FS).s.c,Dp ((F0 l n q).o.getD (i+1) FS).s.a]=DL [Dp ((F0 l n q).o.getD (i+1) FS).s.x,I6 n,I6 n,Dp ((F0 l n q).o.getD (i+1) FS).s.a]from by rw[hso.r,hso.c])) (.t rfl)),trivial⟩)<|.m rfl<|.n (xk rfl)<|.n (xk rfl)<|.r 3 (LP 3 Kh (.t rfl) (.t rfl) rfl (by omega) (by omega))<|.w 3 (MG (v:=(oA l n (F0 l n q).o i).s) (j:=i) 3 HU (.t rfl) (by rw[Ar]) (.t rfl) gH rfl (by omega))<|.w 0 (xn 0 rfl D7 gG rfl)<|.nil) (fun _=>Di) rfl fun g4=>nx (E4 0 1 3 4 rfl) (R4 0 1 2 3 rfl) ?_)
 refine zW (.r 0 (xf 0 UO rfl zJ rfl)<|.n (xd rfl)<|.nil) rfl fun g5=>nx (E4 1 3 4 28 rfl) (R4 0 1 2 3 rfl)<|zC<|zh rfl (fun h3=>?_) (fun h3=>?_)<;>try simp only[CT,Z]at h3
 ·have he2:(oA l n (F0 l n q).o i).e≠0:=h3
  refine(zG [] (.n (xy Ez rfl)<|.w 2 (yM 2 (.t rfl) (.k rfl) D7 wF rfl rfl rfl)<|.w 1 (xn 1 rfl D7 wE rfl)<|.nil) ff rfl fun g6=>nx (E0) (R4 0 1 2 3 rfl) ?_)
  refine zR<|IU<|D5 (To.res 0 (r':=Dh E [I6 ((F0 l n (q+1)).e)] TE) rfl (yQ (by rw[Hb he0 hq hil];rfl)) rfl)<|D5 (To.res 1 (r':=Dh PL [I6 ((F0 l n (q+1)).p)] TP) rfl (yQ (by rw[Hb he0 hq hil,if_neg he2])) rfl)<|D5 (To.res 2 (r':=Dh O [CW (Va (F0 l n (q+1)) sv)] TS) rfl (yQ (by rw[tc (by rw[Hb he0 hq hil];exact he2)])) rfl)<|D5 (To.res 3 (r':=Gd sv 5 KM ((F0 l n (q+1)).o) T) rfl (yQ (by rw[Hb he0 hq hil])) rfl)<|D5 (To.join 2 3 rfl rfl rfl rfl)<|D5 (To.join 1 2 rfl rfl rfl rfl)<|D5 (To.join 0 1 rfl rfl rfl rfl)<|D5 (To.res 0 (r':=gR E PL O sv TE TP TS T (F0 l n (q+1))) rfl (fun _ _ h=>h) rfl)<|Db 0 hr0 (NO (by rw[G9,G9])) rfl (.nil) (zM zL ?_)
  exact HS
 have he2:(oA l n (F0 l n q).o i).e=0:=h3
 refine yE<|zR<|IU<|D5 (To.res 0 (r':=Dh E [I6 ((F0 l n (q+1)).e)] TE) rfl (yQ (by rw[Hb he0 hq hil];rfl)) rfl)<|D5 (To.res 1 (r':=Dh PL [I6 ((F0 l n (q+1)).p)] TP) rfl (yQ (by rw[Hb he0 hq hil,if_pos he2])) rfl)<|D5 (To.res 2 (r':=Dh O [CW (Va (F0 l n (q+1)) sv)] TS) rfl (yQ (by rw[ah (by rw[Hb he0 hq hil];exact he2)])) rfl)<|D5 (To.res 3 (r':=Gd sv 5 KM ((F0 l n (q+1)).o) T) rfl (yQ (by rw[Hb he0 hq hil])) rfl)<|D5 (To.join 2 3 rfl rfl rfl rfl)<|D5 (To.join 1 2 rfl rfl rfl rfl)<|D5 (To.join 0 1 rfl rfl rfl rfl)<|D5 (To.res 0 (r':=gR E PL O sv TE TP TS T (F0 l n (q+1))) rfl (fun _ _ h=>h) rfl)<|Db 0 hr0 (NO (by rw[G9,G9])) rfl (.nil) (zM zL ?_)
 exact HS
theorem UN{l:List Hm}{n:Int}(hl:TC l n):Ct prog 19 [Lq 11 Nw l] (mw (F0 l n l.length)):=by
 refine Ct.ofD func19 rfl (by kernel_rfl) rfl fun c0=>?_
 have hlm:=hl.m
 refine yN (To.emps 4)<|zV (.w 0 (xa 0 rfl uQ rfl)<|.w 1 (xj 1 a1L rfl)<|.w 2 (xj 2 zr3 rfl)<|.w 3 (xj 3 ou rfl)<|.nil) rfl fun g1=>nx (E4 1 2 3 4 rfl) (R4 0 1 2 3 rfl)<|zC<|DS<|zV (.r 0 (xf 0 fV rfl zJ rfl)<|.n (Ef La (.t rfl))<|.w 4 (fg 4 Kh Sd rfl rfl rfl (.t rfl) (.t rfl) (by omega) (by omega) (by omega) (by omega) rfl)<|.w 1 (EJ 1 (.t rfl) rfl wF rfl rfl)<|.nil) rfl fun g2=>nx (E4 1 2 3 4 rfl) (R5 0 1 2 3 4 rfl)<|Dd<|yN (To.resC 4 rfl (nz (mk:=KM) (x:=FS) (.cons (Dr (mk:=Dm))<|.cons zL<|.cons zL<|.cons (Dr (mk:=Dm))<|.cons zL .nil)) rfl)<|yN (To.freeze 0 (fun _ h=>h) rfl Dv rfl)<|zV (.n (yC fV (Lk.sub (DN 0 1 rfl rfl) (.t rfl)) rfl)<|.n (Ef La (.t rfl))<|.n (zA (.k rfl))<|.nil) rfl fun g3=>nx (E6 1 2 3 4 10 11 rfl) (R4 1 2 3 4 rfl)<|zC<|zT<|oI (fcl 40 (fun i=>[DW (g1 4) 0,Gf [I6 (i:Int)],Gf [Lq 11 Nw l],DW (g1 2) 0,DW (g1 3) 0])) (fun vs=>vs.length≤l.length) (fun vs=>l.length-vs.length) (fun vs restR=>(11,I6 (vs.length:Int))::restR) (fun vs restS=>restS) (ρc:=[(1,_),(2,_),(3,_),(4,_),(10,_)]) (σc:=[_,_,_,_]) (by exact A7 _) (Es (fun _=>E6 11 1 2 3 4 10 rfl) fun _=>R4 0 1 2 3 rfl) rfl rfl (fun vs hI=>?_)
 refine zV (.n (xw rfl)<|.nil) rfl fun g4=>nx (E7 1 2 3 4 10 11 12 rfl) (R4 0 1 2 3 rfl)<|Dd<|zh rfl (fun h1=>?_) (fun h1=>?_)<;>try simp only[CT,Z]at h1
 ·refine yE<|Dd<|zT<|DS<|zV (.m rfl<|.w 4 (xj 4 zr3 rfl)<|.w 4 (xm 4 rfl D7 wE rfl)<|.nil) rfl fun g5=>nx (E7 1 2 3 4 5 10 11 rfl) (R5 0 1 2 3 4 rfl)<|zC<|yN (To.freeze 4 (fun _ h=>h) rfl Dv rfl)<|(Sg ?_)
  refine Ha 1 rfl<|(GQ (.n (Fh (ps:=[_,_,_,_,_]) ⟨(.t rfl),(Lk.sub (DN 0 1 rfl rfl) (.t rfl)),(Lk.sub (DN 1 1 rfl rfl) (.t rfl)),(.t rfl),(.t rfl),trivial⟩)<|.nil) rfl fun g6=>nx (E7 1 2 3 4 10 11 14 rfl) (R4 0 1 2 3 rfl) ?_)
  refine K7<|Qx (.t rfl) fun dv0=>zR<|zC<|(zG [] (.n (xo rfl (wo (by omega)))<|.m rfl<|.nil) ff rfl fun g7=>nx (E6 1 2 3 4 10 11 rfl) (R4 0 1 2 3 rfl) ?_)
  exact cT dv0 vs ⟨rfl,rfl,rfl,rfl⟩ (by rw[AG];omega) (by rw[AG];omega) vg (Es (fun _=>E6 11 1 2 3 4 10 rfl) fun _=>R4 0 1 2 3 rfl)
 refine D6<|zE<|zE<|zS<|zW (.r 0 (xf 0 fW rfl zJ rfl)<|.w 0 (xn 0 rfl D7 wF rfl)<|.w 1 (yM 1 (.t rfl) (.k rfl) D7 wE rfl rfl rfl)<|.w 2 (yM 2 (.t rfl) (.k rfl) D7 gG rfl rfl rfl)<|.nil) rfl fun g8=>nx (E3 2 3 4 rfl) (R4 0 1 2 3 rfl)<|De<|Yb<|D5 (To.res 2 (r':=Dh (g1 4) [I6 (F0 l n 0).e] 29) rfl (yQ (by rfl)) rfl)<|D5 (To.res 1 (r':=Dh (g1 3) [I6 (F0 l n 0).p] 3) rfl (yQ (by rfl)) rfl)<|D5 (To.res 0 (r':=Dh (g1 2) [CW (Va (F0 l n 0) (g2 8))] 41) rfl (yQ (by rfl)) rfl)<|D5 (To.res 3 (r':=Gd (g2 8) 5 KM (F0 l n 0).o 48) rfl (yQ (by rw[Ar];rfl)) rfl) ?_
 show JN _ _ _ [Dh (g1 2) [CW (Va (F0 l n 0) (g2 8))] 41,Dh (g1 3) [I6 (F0 l n 0).p] 3,Dh (g1 4) [I6 (F0 l n 0).e] 29,Gd (g2 8) 5 KM (F0 l n 0).o 48] _
 refine D5 (To.join 0 3 rfl rfl rfl rfl) ?_
 show JN _ _ _ [(Dh (g1 2) [CW (Va (F0 l n 0) (g2 8))] 41).sep (Gd (g2 8) 5 KM (F0 l n 0).o 48),Dh (g1 3) [I6 (F0 l n 0).p] 3,Dh (g1 4) [I6 (F0 l n 0).e] 29,Go.Bn.emp] _
 refine D5 (To.join 1 0 rfl rfl rfl rfl) ?_
 show JN _ _ _ [Go.Bn.emp,(Dh (g1 3) [I6 (F0 l n 0).p] 3).sep ((Dh (g1 2) [CW (Va (F0 l n 0) (g2 8))] 41).sep (Gd (g2 8) 5 KM (F0 l n 0).o 48)),Dh (g1 4) [I6 (F0 l n 0).e] 29,Go.Bn.emp] _
 refine D5 (To.join 2 1 rfl rfl rfl rfl) ?_
 show JN _ _ _ [Go.Bn.emp,Go.Bn.emp,(Dh (g1 4) [I6 (F0 l n 0).e] 29).sep ((Dh (g1 3) [I6 (F0 l n 0).p] 3).sep ((Dh (g1 2) [CW (Va (F0 l n 0) (g2 8))] 41).sep (Gd (g2 8) 5 KM (F0 l n 0).o 48))),Go.Bn.emp] _
 refine D5 (To.res 2 (r':=gR (g1 4) (g1 3) (g1 2) (g2 8) 29 3 41 48 (F0 l n 0)) rfl (fun _ _ h=>h) rfl) ?_
 show JN _ _ _ [Go.Bn.emp,Go.Bn.emp,gR (g1 4) (g1 3) (g1 2) (g2 8) 29 3 41 48 (F0 l n 0),Go.Bn.emp] _
 refine SA 2 (r:=fun q=>gR (g1 4) (g1 3) (g1 2) (g2 8) 29 3 41 48 (F0 l n q)) (caps:=(fun i=>[DW (g1 4) 0,Gf [I6 (i:Int)],Gf [Lq 11 Nw l],DW (g1 2) 0,DW (g1 3) 0])) (N:=l.length) (fun i q h=>fU hl h) vs 0 _ (by omega) (fun p hp=>CM _ hp) rfl ?_
 show JN _ _ _ [Go.Bn.emp,Go.Bn.emp,gR (g1 4) (g1 3) (g1 2) (g2 8) 29 3 41 48 (F0 l n l.length),Go.Bn.emp] _
 refine D5 (To.res 2 (r':=(Dh (g1 4) [I6 (F0 l n l.length).e] 29).sep ((Dh (g1 3) [I6 (F0 l n l.length).p] 3).sep ((Dh (g1 2) [CW (Va (F0 l n l.length) (g2 8))] 41).sep (Gd (g2 8) 5 KM (F0 l n l.length).o 48)))) rfl (fun _ _ h=>h) rfl) ?_
 show JN _ _ _ [Go.Bn.emp,Go.Bn.emp,(Dh (g1 4) [I6 (F0 l n l.length).e] 29).sep ((Dh (g1 3) [I6 (F0 l n l.length).p] 3).sep ((Dh (g1 2) [CW (Va (F0 l n l.length) (g2 8))] 41).sep (Gd (g2 8) 5 KM (F0 l n l.length).o 48))),Go.Bn.emp] _
 refine D5 (To.split 2 1 rfl rfl rfl rfl) ?_
 show JN _ _ _ [Go.Bn.emp,(Dh (g1 3) [I6 (F0 l n l.length).p] 3).sep ((Dh (g1 2) [CW (Va (F0 l n l.length) (g2 8))] 41).sep (Gd (g2 8) 5 KM (F0 l n l.length).o 48)),Dh (g1 4) [I6 (F0 l n l.length).e] 29,Go.Bn.emp] _
 refine D5 (To.split 1 0 rfl rfl rfl rfl) ?_
 show JN _ _ _ [(Dh (g1 2) [CW (Va (F0 l n l.length) (g2 8))] 41).sep (Gd (g2 8) 5 KM (F0 l n l.length).o 48),Dh (g1 3) [I6 (F0 l n l.length).p] 3,Dh (g1 4) [I6 (F0 l n l.length).e] 29,Go.Bn.emp] _
 refine D5 (To.split 0 3 rfl rfl rfl rfl) ?_
 show JN _ _ _ [Dh (g1 2) [CW (Va (F0 l n l.length) (g2 8))] 41,Dh (g1 3) [I6 (F0 l n l.length).p] 3,Dh (g1 4) [I6 (F0 l n l.length).e] 29,Gd (g2 8) 5 KM (F0 l n l.length).o 48] _
 by_cases he:(F0 l n l.length).e=0
 ·refine D5 (To.freeze 3 (fun _ h=>h) rfl LG rfl)<|D5 (To.res 0 (r':=Dh (g1 2) [CW ((g2 8))] 41) rfl (yQ (by rw[ah he])) rfl) ?_
  show JN _ _ _ [Dh (g1 2) [CW ((g2 8))] 41,Dh (g1 3) [I6 (F0 l n l.length).p] 3,Dh (g1 4) [I6 (F0 l n l.length).e] 29,Go.Bn.emp] _
  refine PX (.cons (.sc 0 (.t rfl) fW rfl rfl)<|.cons (.sc 1 (.t rfl) Ez rfl rfl)<|.cons (.sc 2 (.t rfl) UO rfl rfl)<|.nil) (zM (Dk (.cons (Ed 0 rfl)<|.cons HS<|.cons zL .nil)) ?_)
  exact D3 (by unfold mw;rw[VB he])
 refine D5 (To.res 0 (r':=Dh (g1 2) [CW (.slice none 0 0)] 41) rfl (yQ (by rw[tc he])) rfl) ?_
 show JN _ _ _ [Dh (g1 2) [CW (.slice none 0 0)] 41,Dh (g1 3) [I6 (F0 l n l.length).p] 3,Dh (g1 4) [I6 (F0 l n l.length).e] 29,Gd (g2 8) 5 KM (F0 l n l.length).o 48] _
 refine PX (.cons (.sc 0 (.t rfl) fW rfl rfl)<|.cons (.sc 1 (.t rfl) Ez rfl rfl)<|.cons (.sc 2 (.t rfl) UO rfl rfl)<|.nil) (zM (Dk (.cons (GI (mk:=KM) (k:=5))<|.cons HS<|.cons zL .nil)) ?_)
 exact D3 (by unfold mw;rw[y8 he])
theorem S5{l:List Hm}:Ct prog 8 [Lq 11 Nw l] (rG (x6 l) (smE l)):=by
 refine Ct.of func8 rfl (by kernel_rfl) rfl fun c0=>zV (.b rfl<|.b rfl<|.b rfl<|.nil) rfl fun g1=>CY (E1 0 rfl)<|Dd<|zV (.m rfl<|.n (zP (Tl) (A1 rfl))<|.m rfl<|.n (xk rfl)<|.n (xk rfl)<|.a rfl<|.z rfl) rfl fun g2=>CY (E3 0 5 6 rfl)<|zW (.m rfl<|.n (xd rfl)<|.nil) rfl fun g3=>CY (E4 0 5 6 13 rfl)<|zC<|zh rfl (fun h1=>?_) (fun h1=>?_)<;>try simp only[CT,Z]at h1
 ·refine zV (.mm rfl<|.b rfl<|.a rfl<|.z rfl) rfl fun g4=>CY (E3 2 3 4 rfl)<|De<|zD<|zQ (.cons (.tmp (.t rfl))<|.cons (.tmp (.t rfl))<|.cons (.tmp (.t rfl))<|.nil) (zM (Dk (.cons (GI (mk:=KM) (k:=5))<|.cons zL<|.cons zL<|.nil)) ?_)
  exact Tf (o:=[]) (ns h1).2 (ns h1).1
 have hlo:TC l (T7 l):=bm h1
 refine yE<|zW (.m rfl<|.n (zP (UN hlo) (A1 rfl))<|.n (xk rfl)<|.n (xk rfl)<|.n (xk rfl)<|.a rfl<|.a rfl<|.z rfl) rfl fun g5=>CY (E3 2 3 4 rfl)<|De<|zq rfl<|Tf (Xz h1).2 (Xz h1).1
theorem s8{l:List Hm}{m:Int}(h0:0≤m)(hm:m≤1000):Ct prog 9 [Lq 11 Nw l,I6 (m)] (rG (jP l m) (Rg l m)):=by
 refine Ct.of func9 rfl (by kernel_rfl) rfl fun c0=>zV (.b rfl<|.b rfl<|.b rfl<|.nil) rfl fun g1=>CY (E2 0 1 rfl)<|Dd<|zV (.m rfl<|.n (xd rfl)<|.nil) rfl fun g2=>CY (E3 0 1 16 rfl)<|zC<|zh rfl (fun h1=>?_) (fun h1=>?_)<;>try simp only[CT,Z]at h1
 ·omega
 refine yE<|Dd<|zV (.m rfl<|.n (zP (Tl) (A1 rfl))<|.m rfl<|.n (xk rfl)<|.n (xk rfl)<|.a rfl<|.z rfl) rfl fun g3=>CY (E4 0 1 7 8 rfl)<|zW (.m rfl<|.n (xd rfl)<|.nil) rfl fun g4=>CY (E5 0 1 7 8 23 rfl)<|zC<|zh rfl (fun h2=>?_) (fun h2=>?_)<;>try simp only[CT,Z]at h2
 ·refine zV (.mm rfl<|.b rfl<|.a rfl<|.z rfl) rfl fun g5=>CY (E3 4 5 6 rfl)<|De<|zD<|zQ (.cons (.tmp (.t rfl))<|.cons (.tmp (.t rfl))<|.cons (.tmp (.t rfl))<|.nil) (zM (Dk (.cons (GI (mk:=KM) (k:=5))<|.cons zL<|.cons zL<|.nil)) ?_)
  exact Tf (o:=[]) (if_pos (by unfold Rg;rw[if_pos h2];exact h2)) (if_pos h2)
 have hls:Vb l=0:=h2
 have hlo:TC l (T7 l):=bm hls
 have hlm:=hlo.m
 refine yE<|zW (.b rfl<|.nil) rfl fun g6=>CY (E3 0 1 9 rfl)<|Dd<|zV (.m rfl<|.n (Ef La (.t rfl))<|.n (zA (.k rfl))<|.nil) rfl fun g7=>CY (E5 0 1 9 27 28 rfl)<|zC<|zT<|DS<|D4 (α:=Nat×Value) (fun y=>y.1≤l.length∧Y6 l m y.1=0) (fun y=>l.length-y.1) (fun y restR=>(9,CW y.2)::(28,I6 (y.1:Int))::restR) (fun y restS=>Gd y.2 5 KM (kn l m y.1) 48::restS) (ρc:=[(0,_),(1,_),(27,_)]) (σc:=[]) (0,.slice none 0 0) (by exact⟨A7 _,rfl⟩) (To.pick (fun _=>E5 9 28 0 1 27 rfl) (fun _=> .sub 0 rfl (Ow)<|.nil) (ks:=[0]) rfl) (fun y hI=>?_)
 obtain⟨k,sv⟩:=y
 try simp only at hI
 show J _ _ ((9,CW sv)::(28,I6 (k:Int))::_) (Gd sv 5 KM (kn l m k) 48::_) _ _
 obtain⟨hk,hk0⟩:=hI
 have hk:k≤l.length:=hk
 have hk0:Y6 l m k=0:=hk0
 have hgl:=bj (l:=l) (m:=m) (k:=k)
 refine zV (.n (xw rfl)<|.nil) rfl fun g8=>CZ 0 (E6 0 1 9 27 28 29 rfl) rfl<|Dd<|zh rfl (fun h3=>?_) (fun h3=>?_)<;>try simp only[CT,Z]at h3
 ·refine yE<|Dd<|zT<|zV (.m rfl<|.z rfl) rfl fun g9=>CZ 0 (E6 0 1 9 10 27 28 rfl) rfl<|zW (.m rfl<|.n (Ef La (.t rfl))<|.z rfl) rfl fun g10=>CZ 0 (E7 0 1 9 10 11 27 28 rfl) rfl<|Dd<|zV (.mm rfl<|.n (xh rfl (wo (by omega)))<|.m rfl<|.n (Eb (.t rfl) (.t rfl) (wo (by omega)))<|.n (xw rfl)<|.nil) rfl fun g11=>CZ 0 (E8 0 1 9 10 11 27 28 38 rfl) rfl<|zC<|zh rfl (fun h4=>?_) (fun h4=>?_)<;>try simp only[CT,Z]at h4
  ·refine(zG [] (.mm rfl<|.n (xq rfl (wo (by omega)))<|.n (xo rfl (wo (by omega)))<|.z rfl) ff rfl fun g12=>CZ 0 (E7 0 1 9 10 11 27 28 rfl) rfl ?_)
   refine zC ?_
   have hen:Ro l m k≤l.length:=by unfold Ro;split<;>omega
   refine yN (To.slot 11 rfl (q:=I6 ((Ro l m k:Nat):Int)) (D3 (by unfold Ro;first|(rw[if_pos (by omega)];congr 2;omega)|rw[if_neg (by omega)])))<|zV (.mm rfl<|.n (PC La JX (.t rfl) (.t rfl) (by omega) (by omega))<|.n (zP (UN (l:=l.take (Ro l m k)) (n:=T7 l) (OW hlo)) (A1 rfl))<|.m rfl<|.n (xk rfl)<|.n (xk rfl)<|.n (xk rfl)<|.a rfl<|.a rfl<|.z rfl) rfl fun g13=>CZ 0 (E9 0 1 9 10 12 13 14 27 28 rfl) rfl<|Dd<|zV (.m rfl<|.n (xd rfl)<|.nil) rfl fun g14=>CZ 0 (I4 0 1 9 10 12 13 14 27 28 52 rfl) rfl<|zC<|zh rfl (fun h5=>?_) (fun h5=>?_)<;>try simp only[CT,Z]at h5
   ·have hbe:(bg l m k).e≠0:=h5
    refine zV (.mm rfl<|.b rfl<|.a rfl<|.z rfl) rfl fun g15=>CZ 0 (E3 4 5 6 rfl) rfl<|De<|zD<|yP<|zD<|zD<|yP<|zD<|zQ (.cons (.tmp (.t rfl))<|.cons (.tmp (.t rfl))<|.cons (.tmp (.t rfl))<|.nil) (zM (Dk (.cons (GI (mk:=KM) (k:=5))<|.cons zL<|.cons zL<|.nil)) ?_)
    have hle:Rg l m=(bg l m k).e:=by unfold Rg;rw[if_neg (by omega)];exact bh hk0 hbe (by omega)
    exact Tf (o:=[]) (if_pos (by rw[hle];exact hbe)) hle
   have hbe:(bg l m k).e=0:=h5
   obtain⟨hb1,hb2⟩:=Uh h0 (by omega) hbe
   have hb3:(oz (F0 (l.take (Ro l m k)) (T7 l) (l.take (Ro l m k)).length)).length=(l.take (Ro l m k)).length:=hb2
   refine yE<|zC<|(zG [] (.mm rfl<|.m rfl<|.n (DX (mk:=KM) FS Kh HU (.t rfl) (.t rfl) (by omega) (by omega))<|.n (DB db (.t rfl) rfl rfl)<|.n (xC Kh Sd rfl (.cons rfl (.t rfl) yL rfl (yU rfl (A8 rfl)) .nil))<|.w 0 (IN (x3 l m k) 0 Kh Sd rfl rfl (.t rfl) (.t rfl) rfl (by omega) (by omega))<|.n (yX rfl rfl)<|.nil) ff rfl fun g16=>CZ 0 (E5 0 1 9 27 28 rfl) rfl ?_)
   refine zR<|zC<|(zG [] (.n (xo rfl (wo (by omega)))<|.m rfl<|.nil) ff rfl fun g17=>CZ 0 (E5 0 1 9 27 28 rfl) rfl ?_)
   exact yW (k+1,(g16 61)) (by exact⟨show k+1≤l.length by omega,(NW hk0).trans hbe⟩) (by show l.length-(_+1)<_;omega) (To.pick (fun _=>E5 9 28 0 1 27 rfl) (fun _=> .sub 0 rfl (yQ (by first|(rw[NX];done)|(rw[NX];rfl)))<|.nil) (ks:=[0]) rfl)
  refine yE<|zC ?_
  have hen:Ro l m k≤l.length:=by unfold Ro;split<;>omega
  refine yN (To.slot 11 rfl (q:=I6 ((Ro l m k:Nat):Int)) (D3 (by unfold Ro;first|(rw[if_pos (by omega)];congr 2;omega)|rw[if_neg (by omega)])))<|zV (.mm rfl<|.n (PC La JX (.t rfl) (.t rfl) (by omega) (by omega))<|.n (zP (UN (l:=l.take (Ro l m k)) (n:=T7 l) (OW hlo)) (A1 rfl))<|.m rfl<|.n (xk rfl)<|.n (xk rfl)<|.n (xk rfl)<|.a rfl<|.a rfl<|.z rfl) rfl fun g18=>CZ 0 (E9 0 1 9 10 12 13 14 27 28 rfl) rfl<|Dd<|zV (.m rfl<|.n (xd rfl)<|.nil) rfl fun g19=>CZ 0 (I4 0 1 9 10 12 13 14 27 28 52 rfl) rfl<|zC<|zh rfl (fun h6=>?_) (fun h6=>?_)<;>try simp only[CT,Z]at h6
  ·have hbe:(bg l m k).e≠0:=h6
   refine zV (.mm rfl<|.b rfl<|.a rfl<|.z rfl) rfl fun g20=>CZ 0 (E3 4 5 6 rfl) rfl<|De<|zD<|yP<|zD<|zD<|yP<|zD<|zQ (.cons (.tmp (.t rfl))<|.cons (.tmp (.t rfl))<|.cons (.tmp (.t rfl))<|.nil) (zM (Dk (.cons (GI (mk:=KM) (k:=5))<|.cons zL<|.cons zL<|.nil)) ?_)
   have hle:Rg l m=(bg l m k).e:=by unfold Rg;rw[if_neg (by omega)];exact bh hk0 hbe (by omega)
   exact Tf (o:=[]) (if_pos (by rw[hle];exact hbe)) hle
  have hbe:(bg l m k).e=0:=h6
  obtain⟨hb1,hb2⟩:=Uh h0 (by omega) hbe
  have hb3:(oz (F0 (l.take (Ro l m k)) (T7 l) (l.take (Ro l m k)).length)).length=(l.take (Ro l m k)).length:=hb2
  refine yE<|zC<|(zG [] (.mm rfl<|.m rfl<|.n (DX (mk:=KM) FS Kh HU (.t rfl) (.t rfl) (by omega) (by omega))<|.n (DB db (.t rfl) rfl rfl)<|.n (xC Kh Sd rfl (.cons rfl (.t rfl) yL rfl (yU rfl (A8 rfl)) .nil))<|.w 0 (IN (x3 l m k) 0 Kh Sd rfl rfl (.t rfl) (.t rfl) rfl (by omega) (by omega))<|.n (yX rfl rfl)<|.nil) ff rfl fun g21=>CZ 0 (E5 0 1 9 27 28 rfl) rfl ?_)
  refine zR<|zC<|(zG [] (.n (xo rfl (wo (by omega)))<|.m rfl<|.nil) ff rfl fun g22=>CZ 0 (E5 0 1 9 27 28 rfl) rfl ?_)
  exact yW (k+1,(g21 61)) (by exact⟨show k+1≤l.length by omega,(NW hk0).trans hbe⟩) (by show l.length-(_+1)<_;omega) (To.pick (fun _=>E5 9 28 0 1 27 rfl) (fun _=> .sub 0 rfl (yQ (by first|(rw[NX];done)|(rw[NX];rfl)))<|.nil) (ks:=[0]) rfl)
 refine D6<|zE<|zE<|zS<|zW (.m rfl<|.a rfl<|.b rfl<|.b rfl<|.nil) rfl fun g23=>CZ 0 (E3 4 5 6 rfl) rfl<|De<|D5 (To.freeze 0 (fun _ h=>h) rfl LG rfl)<|zQ (.cons (.tmp (.t rfl))<|.cons (.tmp (.t rfl))<|.cons (.tmp (.t rfl))<|.nil) (zM (Dk (.cons (Ed 0 rfl)<|.cons zL<|.cons zL<|.nil)) ?_)
 have hle:Rg l m=0:=by unfold Rg;rw[if_neg (by omega),show l.length=k by omega];exact hk0
 exact Tf (by unfold jP;rw[if_neg (by omega),show l.length=k by omega]) hle
theorem xX:Ct prog 5 [DL (XB OF),QB Qu,Lq 6 Wh [cS]] (mx [Vd] 0):=by have h:=cG (s:=OF) (ps:=Qu) (gs:=[cS]);rw[uA,iE]at h;exact h
theorem a15:Ct prog 8 [Lq 11 Nw [Vd]] (rG [⟨gP,false⟩] 0):=by have h:=S5 (l:=[Vd]);rw[uD,uC]at h;exact h
theorem MX:Ct prog 4 [] (CW (.bool true)):=by
 refine Ct.of func4 rfl (by kernel_rfl) rfl fun c0=>zV (.b rfl<|.nil) rfl fun g1=>CY (E0)<|zC<|DS<|zV (.n (xC Dl EL rfl (.cons rfl (Lk.fk rfl (by decide+kernel)) Dj rfl (yU rfl (A8 rfl)) .nil))<|.n (xC Dl EL rfl (.cons rfl (Lk.fk rfl (by decide+kernel)) Dj rfl (yU rfl (A8 rfl)) .nil))<|.n (D1 EU rfl Hp (.cons rfl (.k rfl) D7 rfl (yU rfl (A8 rfl)) (.cons rfl (.k rfl) D7 rfl (yU rfl (A8 rfl)) (.g Fe rfl .nil))))<|.n (D1 G8 rfl J3 (.g Fe rfl (.cons rfl (.t rfl) yL rfl (yU rfl (A8 rfl)) .nil)))<|.w 0 (xj 0 G8 rfl)<|.w 0 (xm 0 rfl yL GO rfl)<|.nil) rfl fun g2=>CZ 0 (E1 1 rfl) rfl<|zC<|DS<|zV (.n (D1 ov rfl a1q (.cons rfl (.k rfl) D7 rfl (yU rfl (A8 rfl)) (.cons rfl (.k rfl) D7 rfl (yU rfl (A8 rfl)) (.cons rfl (Lk.fk rfl (by decide+kernel)) Dj rfl (yU rfl (A8 rfl)) .nil))))<|.n (xC Xy ov rfl (.cons rfl (Lk.sub (Dx (.cons zL<|.cons zL<|.cons zL<|.cons KE<|.nil)) (.t rfl)) yL rfl (yU rfl (A8 rfl)) .nil))<|.n (D1 a0G rfl a1o (.g Fe rfl .nil))<|.w 1 (xj 1 a0G rfl)<|.w 1 (xm 1 rfl yL a1G rfl)<|.nil) rfl fun g3=>nx (E2 1 2 rfl) (R2 0 1 rfl)<|zW (.r 0 (xc 0 Fl rfl zJ rfl)<|.r 1 (xc 1 Sj rfl zJ rfl)<|.n (xC Dl EL rfl (.cons rfl (Lk.fk rfl (by decide+kernel)) Dj rfl (yU rfl (A8 rfl)) .nil))<|.n (D1 EU rfl Hp (.cons rfl (.k rfl) D7 rfl (yU rfl (A8 rfl)) (.cons rfl (.k rfl) D7 rfl (yU rfl (A8 rfl)) (.g Fe rfl .nil))))<|.n (xC Dl EL rfl (.cons rfl (Lk.fk rfl (by decide+kernel)) Dj rfl (yU rfl (A8 rfl)) .nil))<|.n (xC Dl EL rfl (.cons rfl (Lk.fk rfl (by decide+kernel)) Dj rfl (yU rfl (A8 rfl)) .nil))<|.n (D1 ZP rfl zl (.cons rfl (.k rfl) D7 rfl (yU rfl (A8 rfl)) (.cons rfl (.t rfl) yL rfl (yU rfl (A8 rfl)) (.g Fe rfl (.g Fe rfl .nil)))))<|.n (xC gk ZP rfl (.cons rfl (.t rfl) yL rfl (yU rfl (A8 rfl)) .nil))<|.n (zP (xX) (A3 rfl))<|.m rfl<|.n (xk rfl)<|.n (xk rfl)<|.n (xk rfl)<|.a rfl<|.a rfl<|.z rfl) rfl fun g4=>CY (E2 3 5 rfl)<|zW (.m rfl<|.n (zP (a15) (A1 rfl))<|.m rfl<|.n (xk rfl)<|.n (xk rfl)<|.n (xk rfl)<|.a rfl<|.a rfl<|.z rfl) rfl fun g5=>CY (E3 5 6 8 rfl)<|zW (.m rfl<|.n (xd rfl)<|.m rfl<|.n (gu rfl (fun hC=>(xB rfl)))<|.n (gu rfl (fun hC=>(oc rfl (.w rfl hC) (.k rfl) rfl)))<|.n (EO (.t rfl) (fun h2=>(.w rfl h2)))<|.m rfl<|.n (gu rfl (fun hC=>(xB rfl)))<|.n (gu rfl (fun hC=>(Ef Kh (.w rfl hC))))<|.n (gu rfl (fun hC=>(oc rfl (.w rfl hC) (.k rfl) rfl)))<|.n (EO (.t rfl) (fun h2=>(.w rfl h2)))<|.m rfl<|.n (gu rfl (fun hC=>(xB rfl)))<|.n (gu rfl (fun hC=>(DX (mk:=KM) FS Kh HU (.w rfl hC) (.k rfl) (by decide) (by decide))))<|.n (gu rfl (fun hC=>(yR N2 (.w rfl hC) rfl)))<|.n (gu rfl (fun hC=>(yR FQ (.w rfl hC) rfl)))<|.n (gu rfl (fun hC=>(yC Eo (.w rfl hC) rfl)))<|.n (gu rfl (fun hC=>(yV Dl (.w rfl hC))))<|.n (gu rfl (fun hC=>(oc rfl (.w rfl hC) (.k rfl) rfl)))<|.n (EO (.t rfl) (fun h2=>(.w rfl h2)))<|.m rfl<|.n (gu rfl (fun hC=>(xB rfl)))<|.n (gu rfl (fun hC=>(DX (mk:=KM) FS Kh HU (.w rfl hC) (.k rfl) (by decide) (by decide))))<|.n (gu rfl (fun hC=>(yR N2 (.w rfl hC) rfl)))<|.n (gu rfl (fun hC=>(yR FQ (.w rfl hC) rfl)))<|.n (gu rfl (fun hC=>(yC Eo (.w rfl hC) rfl)))<|.n (gu rfl (fun hC=>(yS 0 Dl (.w rfl hC) (.k rfl) (by decide) (by decide))))<|.n (gu rfl (fun hC=>(yC Fp (.w rfl hC) rfl)))<|.n (gu rfl (fun hC=>(Hk (by simp) (.w rfl hC) (Lk.fk rfl (by decide+kernel)) rfl)))<|.n (EO (.t rfl) (fun h2=>(.w rfl h2)))<|.z rfl) rfl fun g6=>CY (E1 0 rfl)<|De<|DO rfl<|Ia (by decide+kernel)
theorem HI{l:List Int}(hd:Fm l):Ct prog 189 [DP .u32 l] (DP .u32 (CR (CX l).toNat)):=by
 refine Ct.of func189 rfl (by kernel_rfl) rfl fun c0=>ER 0 rfl fun hlen=>zV (.b rfl<|.nil) rfl fun g1=>CY (E1 0 rfl)<|Dd<|zT<|D4 (α:=Nat) (fun k=>k≤l.length∧CX (l.take k)=CX l) (fun k=>k) (fun k restR=>(0,DP .u32 (l.take k))::restR) (fun k restS=>restS) (ρc:=[]) (σc:=[]) l.length (by exact⟨A5 _,by rw[AI]⟩) (Es (fun _=> .sub (t:=0) rfl (yO (by rw[AI]))<|.nil) fun _=>R0) (fun k hI=>?_)
 obtain⟨hk,hm⟩:=hI
 have hkl:(l.take k).length=k:=by rw[A9];omega
 refine zF<|zV (.m rfl<|.n (xv Da rfl)<|.n (xd rfl)<|.m rfl<|.n (gu rfl (fun hC=>(xB rfl)))<|.n (gu rfl (fun hC=>(xB rfl)))<|.n (gu rfl (fun hC=>(yV Da (.w rfl hC))))<|.n (gu rfl (fun hC=>(Eb (.w rfl hC) (.k rfl) (wo (by omega)))))<|.n (gu rfl (fun hC=>(yS 0 Da (.w rfl hC) (.w rfl hC) (by simp only[CT,Ao,decide_eq_true_eq,beq_iff_eq]at hC;omega) (by omega))))<|.n (gu rfl (fun hC=>(yC Fb (.w rfl hC) rfl)))<|.n (gu rfl (fun hC=>(oc rfl (.w rfl hC) (.k rfl) rfl)))<|.n (EO (.t rfl) (fun h2=>(.w rfl h2)))<|.nil) rfl fun g2=>CY (E2 0 14 rfl)<|zC<|zh rfl (fun h1=>?_) (fun h1=>?_)<;>have h1':=h1<;>try simp only[CT,Z]at h1
 ·have hca:=SN hk h1'
  refine yE<|zC<|zT<|(zG [] (.mm rfl<|.n (xv Da rfl)<|.n (xh rfl (wo (by omega)))<|.n (K0 Da (.t rfl) (.t rfl) (by omega) (by omega))<|.z rfl) ff rfl fun g3=>CY (E1 0 rfl) ?_)
  refine zR<|yW (k-1) (by exact⟨by omega,av hk hca.1 hca.2 hm⟩) (by omega) (Es (fun _=> .sub (t:=0) rfl (yO (by exact congrArg (fun z=>DP .u32 z) (j4 hk hca.1 rfl)))<|.nil) fun _=>R0)
 refine D6<|zE<|zE<|zS<|zW (.m rfl<|.z rfl) rfl fun g4=>CY (E1 2 rfl)<|De<|DO rfl<|D3 (congrArg (fun z=>DP .u32 z) (QQ hd hk hm (QR hk h1')))
theorem ph{a b:Int}(hd:Fm [a,b]):Ct prog 189 [Mv 2 1 [CW (.int .u32 a),CW (.int .u32 b)]] (DP .u32 (CR (CX [a,b]).toNat)):=HI (l:=[a,b]) hd
theorem lW{a b:List Int}(ha:Fm a)(hb:Fm b)(hla:a.length≤250000000000)(hlb:b.length≤250000000000)(hAB:b.length≤a.length):Ct prog 254 [DP .u32 a,DP .u32 b] (DP .u32 (CR (CX a+CX b).toNat)):=by
 refine Ct.of func254 rfl (by kernel_rfl) rfl fun c0=>ER 0 rfl fun hlen=>ER 1 rfl fun hlen2=>zV (.b rfl<|.nil) rfl fun g1=>CY (E2 0 1 rfl)<|Dd<|zV (.m rfl<|.n (xv Da rfl)<|.m rfl<|.n (xv Da rfl)<|.n (xw rfl)<|.nil) rfl fun g2=>CY (E3 0 1 14 rfl)<|zC<|zh rfl (fun h1=>?_) (fun h1=>?_)<;>try simp only[CT,Z]at h1
 ·exact absurd h1 (by omega)
 refine yE<|zC<|DS<|zV (.m rfl<|.n (xv Da rfl)<|.n (xo rfl (wo (by omega)))<|.w 0 (DI (mk:=Eh .u32) 0 0 Da I1 rfl (fun _=>⟨rfl,rfl⟩) (.t rfl) (.t rfl) (by omega) (by omega) (by omega) (by omega) rfl)<|.n (yX rfl rfl)<|.nil) rfl fun g3=>CZ 0 (E3 0 1 6 rfl) rfl<|zW (.b rfl<|.nil) rfl fun g4=>CZ 0 (E4 0 1 6 7 rfl) rfl<|Dd<|zV (.b rfl<|.nil) rfl fun g5=>CZ 0 (E5 0 1 6 7 8 rfl) rfl<|zC<|zT<|D4 (α:=Nat×List Int×Int) (fun x=>cW a b x.2.1 x.1 x.2.2) (fun x=>a.length-x.1) (fun x restR=>(8,I6 (x.1:Int))::(7,CW (.int .u64 x.2.2))::restR) (fun x restS=>DC (g3 21) (Eh .u32) x.2.1 256::restS) (ρc:=[(0,_),(1,_),(6,_)]) (σc:=[]) (0,List.replicate (a.length+1) 0,0) (by exact WZ rfl) (To.pick (fun _=>E5 8 7 0 1 6 rfl) (fun _=> .sub 0 rfl (yQ (by rw[show((a.length:Int)+1).toNat=a.length+1 by omega]))<|.nil) (ks:=[0]) rfl) (fun x hI=>?_)
 obtain⟨k,l,c⟩:=x
 try simp only at hI
 show J _ _ ((8,I6 (k:Int))::(7,CW (.int .u64 c))::_) (DC (g3 21) (Eh .u32) l 256::_) _ _
 refine zF<|zV (.mm rfl<|.n (xv Da rfl)<|.n (xw rfl)<|.nil) rfl fun g6=>CZ 0 (E6 0 1 6 7 8 25 rfl) rfl<|zC<|zh rfl (fun h2=>?_) (fun h2=>?_)<;>try simp only[CT,Z]at h2
 ·have hIk:=hI.hk
  have hIl:=hI.hl
  have hIc:=hI.hc
  have ga:=ha.at (k:=((k:Nat):Int).toNat) (show k<a.length by omega)
  refine yE<|Dd<|zT<|zV (.mm rfl<|.n (xx 0 Da rfl (by omega) (by omega))<|.n (xy Fb rfl)<|.n (xg DT El rfl (DD (by omega) (by omega)))<|.m rfl<|.n (xq rfl (DD (by omega) (by omega)))<|.z rfl) rfl fun g7=>CZ 0 (E5 0 1 6 8 9 rfl) rfl<|Dd<|zV (.mm rfl<|.n (xv Da rfl)<|.n (xw rfl)<|.nil) rfl fun g8=>CZ 0 (E6 0 1 6 8 9 38 rfl) rfl<|zC<|zh rfl (fun h3=>?_) (fun h3=>?_)<;>try simp only[CT,Z]at h3
  ·have gb:=hb.at (k:=((k:Nat):Int).toNat) (show k<b.length by omega)
   refine(zG [] (.mm rfl<|.m rfl<|.n (xx 0 Da rfl (by omega) (by omega))<|.n (xy Fb rfl)<|.n (xg DT El rfl (DD (by omega) (by omega)))<|.n (xq rfl (DD (by omega) (by omega)))<|.z rfl) ff rfl fun g9=>CZ 0 (E5 0 1 6 8 9 rfl) rfl ?_)
   refine zC ?_
   obtain⟨s,hs⟩: ∃ s,s=(a.getD ((k:Nat):Int).toNat 0)+c+(if k<b.length then b.getD k 0 else 0):=⟨_,rfl⟩
   first|rw[show(a.getD ((k:Nat):Int).toNat 0)+c+(b.getD ((k:Nat):Int).toNat 0)=s by rw[hs,if_pos (by omega)];rfl]|rw[show(a.getD ((k:Nat):Int).toNat 0)+c=s by rw[hs,if_neg (by omega)];omega]
   have hs2:0≤s∧s<8589934592:=Qi ha hb (show k<a.length by omega) hIc hs
   refine zV (.mm rfl<|.m rfl<|.n (xg El DT rfl (Ls _))<|.r 0 (xz 0 Da rfl (by omega) (by omega))<|.w 0 (xA (mk:=Eh .u32) 0 rfl DY G4 rfl (by omega))<|.nil) rfl fun g10=>CZ 0 (E5 0 1 6 8 9 rfl) rfl<|zC<|(zG [] (.m rfl<|.n (xr rfl (by omega) (IS _))<|.z rfl) ff rfl fun g11=>CZ 0 (E5 0 1 6 7 8 rfl) rfl ?_)
   refine zR<|zC<|(zG [] (.m rfl<|.n (xo rfl (wo (by omega)))<|.z rfl) ff rfl fun g12=>CZ 0 (E5 0 1 6 7 8 rfl) rfl ?_)
   exact yW (k+1,l.set k (s % 4294967296),s/4294967296) (by exact Oc ha hb hI (by omega) hs) (by show a.length-(_+1)<_;omega) (Es (fun _=>E5 8 7 0 1 6 rfl) fun _=>R1 0 rfl)
  refine yE<|zC ?_
  obtain⟨s,hs⟩: ∃ s,s=(a.getD ((k:Nat):Int).toNat 0)+c+(if k<b.length then b.getD k 0 else 0):=⟨_,rfl⟩
  first|rw[show(a.getD ((k:Nat):Int).toNat 0)+c+(b.getD ((k:Nat):Int).toNat 0)=s by rw[hs,if_pos (by omega)];rfl]|rw[show(a.getD ((k:Nat):Int).toNat 0)+c=s by rw[hs,if_neg (by omega)];omega]
  have hs2:0≤s∧s<8589934592:=Qi ha hb (show k<a.length by omega) hIc hs
  refine zV (.mm rfl<|.m rfl<|.n (xg El DT rfl (Ls _))<|.r 0 (xz 0 Da rfl (by omega) (by omega))<|.w 0 (xA (mk:=Eh .u32) 0 rfl DY G4 rfl (by omega))<|.nil) rfl fun g13=>CZ 0 (E5 0 1 6 8 9 rfl) rfl<|zC<|(zG [] (.m rfl<|.n (xr rfl (by omega) (IS _))<|.z rfl) ff rfl fun g14=>CZ 0 (E5 0 1 6 7 8 rfl) rfl ?_)
  refine zR<|zC<|(zG [] (.m rfl<|.n (xo rfl (wo (by omega)))<|.z rfl) ff rfl fun g15=>CZ 0 (E5 0 1 6 7 8 rfl) rfl ?_)
  exact yW (k+1,l.set k (s % 4294967296),s/4294967296) (by exact Oc ha hb hI (by omega) hs) (by show a.length-(_+1)<_;omega) (Es (fun _=>E5 8 7 0 1 6 rfl) fun _=>R1 0 rfl)
 have hIl:=hI.hl
 have hIc:=hI.hc
 obtain⟨hdg,hmg⟩:=WY hAB hI (show k=a.length by have:=hI.hk;omega)
 refine D6<|zE<|zE<|zS<|zW (.mm rfl<|.n (xv Da rfl)<|.m rfl<|.n (xg El DT rfl (I0 (by omega) (by omega)))<|.r 0 (xz 0 Da rfl (by omega) (by omega))<|.w 0 (xA (mk:=Eh .u32) 0 rfl DY G4 rfl (by omega))<|.nil) rfl fun g16=>CZ 0 (E1 6 rfl) rfl<|zC<|yN (To.freeze 0 (fun _ h=>h) rfl Dz rfl)<|zV (.m rfl<|.n (zP (HI hdg) ⟨(Lk.sub (Ed 0 rfl) (.t rfl)),trivial⟩)<|.z rfl) rfl fun g17=>CY (E1 4 rfl)<|De<|DO rfl<|D3 (congrArg (fun z=>DP .u32 (CR z.toNat)) hmg)
theorem lX{a b:List Int}(ha:Fm a)(hb:Fm b)(hla:a.length≤250000000000)(hlb:b.length≤250000000000)(hAB:a.length≤b.length)(hne:a.length<b.length):Ct prog 254 [DP .u32 a,DP .u32 b] (DP .u32 (CR (CX a+CX b).toNat)):=by
 refine Ct.of func254 rfl (by kernel_rfl) rfl fun c0=>ER 0 rfl fun hlen=>ER 1 rfl fun hlen2=>zV (.b rfl<|.nil) rfl fun g1=>CY (E2 0 1 rfl)<|Dd<|zV (.m rfl<|.n (xv Da rfl)<|.m rfl<|.n (xv Da rfl)<|.n (xw rfl)<|.nil) rfl fun g2=>CY (E3 0 1 14 rfl)<|zC<|zh rfl (fun h1=>?_) (fun h1=>?_)<;>try simp only[CT,Z]at h1
 ·refine zV (.m rfl<|.z rfl) rfl fun g3=>CY (E2 1 5 rfl)<|zW (.m rfl<|.z rfl) rfl fun g4=>CY (E2 0 5 rfl)<|zC<|(zG [] (.m rfl<|.z rfl) ff rfl fun g5=>CY (E2 0 1 rfl) ?_)
  refine zC<|DS<|zV (.m rfl<|.n (xv Da rfl)<|.n (xo rfl (wo (by omega)))<|.w 0 (DI (mk:=Eh .u32) 0 0 Da I1 rfl (fun _=>⟨rfl,rfl⟩) (.t rfl) (.t rfl) (by omega) (by omega) (by omega) (by omega) rfl)<|.n (yX rfl rfl)<|.nil) rfl fun g6=>CZ 0 (E3 0 1 6 rfl) rfl<|zW (.b rfl<|.nil) rfl fun g7=>CZ 0 (E4 0 1 6 7 rfl) rfl<|Dd<|zV (.b rfl<|.nil) rfl fun g8=>CZ 0 (E5 0 1 6 7 8 rfl) rfl<|zC<|zT<|D4 (α:=Nat×List Int×Int) (fun x=>cW b a x.2.1 x.1 x.2.2) (fun x=>b.length-x.1) (fun x restR=>(8,I6 (x.1:Int))::(7,CW (.int .u64 x.2.2))::restR) (fun x restS=>DC (g6 21) (Eh .u32) x.2.1 256::restS) (ρc:=[(0,_),(1,_),(6,_)]) (σc:=[]) (0,List.replicate (b.length+1) 0,0) (by exact WZ rfl) (To.pick (fun _=>E5 8 7 0 1 6 rfl) (fun _=> .sub 0 rfl (yQ (by rw[show((b.length:Int)+1).toNat=b.length+1 by omega]))<|.nil) (ks:=[0]) rfl) (fun x hI=>?_)
  obtain⟨k,l,c⟩:=x
  try simp only at hI
  show J _ _ ((8,I6 (k:Int))::(7,CW (.int .u64 c))::_) (DC (g6 21) (Eh .u32) l 256::_) _ _
  refine zF<|zV (.mm rfl<|.n (xv Da rfl)<|.n (xw rfl)<|.nil) rfl fun g9=>CZ 0 (E6 0 1 6 7 8 25 rfl) rfl<|zC<|zh rfl (fun h2=>?_) (fun h2=>?_)<;>try simp only[CT,Z]at h2
  ·have hIk:=hI.hk
   have hIl:=hI.hl
   have hIc:=hI.hc
   have ga:=hb.at (k:=((k:Nat):Int).toNat) (show k<b.length by omega)
   refine yE<|Dd<|zT<|zV (.mm rfl<|.n (xx 0 Da rfl (by omega) (by omega))<|.n (xy Fb rfl)<|.n (xg DT El rfl (DD (by omega) (by omega)))<|.m rfl<|.n (xq rfl (DD (by omega) (by omega)))<|.z rfl) rfl fun g10=>CZ 0 (E5 0 1 6 8 9 rfl) rfl<|Dd<|zV (.mm rfl<|.n (xv Da rfl)<|.n (xw rfl)<|.nil) rfl fun g11=>CZ 0 (E6 0 1 6 8 9 38 rfl) rfl<|zC<|zh rfl (fun h3=>?_) (fun h3=>?_)<;>try simp only[CT,Z]at h3
   ·have gb:=ha.at (k:=((k:Nat):Int).toNat) (show k<a.length by omega)
    refine(zG [] (.mm rfl<|.m rfl<|.n (xx 0 Da rfl (by omega) (by omega))<|.n (xy Fb rfl)<|.n (xg DT El rfl (DD (by omega) (by omega)))<|.n (xq rfl (DD (by omega) (by omega)))<|.z rfl) ff rfl fun g12=>CZ 0 (E5 0 1 6 8 9 rfl) rfl ?_)
    refine zC ?_
    obtain⟨s,hs⟩: ∃ s,s=(b.getD ((k:Nat):Int).toNat 0)+c+(if k<a.length then a.getD k 0 else 0):=⟨_,rfl⟩
    first|rw[show(b.getD ((k:Nat):Int).toNat 0)+c+(a.getD ((k:Nat):Int).toNat 0)=s by rw[hs,if_pos (by omega)];rfl]|rw[show(b.getD ((k:Nat):Int).toNat 0)+c=s by rw[hs,if_neg (by omega)];omega]
    have hs2:0≤s∧s<8589934592:=Qi hb ha (show k<b.length by omega) hIc hs
    refine zV (.mm rfl<|.m rfl<|.n (xg El DT rfl (Ls _))<|.r 0 (xz 0 Da rfl (by omega) (by omega))<|.w 0 (xA (mk:=Eh .u32) 0 rfl DY G4 rfl (by omega))<|.nil) rfl fun g13=>CZ 0 (E5 0 1 6 8 9 rfl) rfl<|zC<|(zG [] (.m rfl<|.n (xr rfl (by omega) (IS _))<|.z rfl) ff rfl fun g14=>CZ 0 (E5 0 1 6 7 8 rfl) rfl ?_)
    refine zR<|zC<|(zG [] (.m rfl<|.n (xo rfl (wo (by omega)))<|.z rfl) ff rfl fun g15=>CZ 0 (E5 0 1 6 7 8 rfl) rfl ?_)
    exact yW (k+1,l.set k (s % 4294967296),s/4294967296) (by exact Oc hb ha hI (by omega) hs) (by show b.length-(_+1)<_;omega) (Es (fun _=>E5 8 7 0 1 6 rfl) fun _=>R1 0 rfl)
   refine yE<|zC ?_
   obtain⟨s,hs⟩: ∃ s,s=(b.getD ((k:Nat):Int).toNat 0)+c+(if k<a.length then a.getD k 0 else 0):=⟨_,rfl⟩
   first|rw[show(b.getD ((k:Nat):Int).toNat 0)+c+(a.getD ((k:Nat):Int).toNat 0)=s by rw[hs,if_pos (by omega)];rfl]|rw[show(b.getD ((k:Nat):Int).toNat 0)+c=s by rw[hs,if_neg (by omega)];omega]
   have hs2:0≤s∧s<8589934592:=Qi hb ha (show k<b.length by omega) hIc hs
   refine zV (.mm rfl<|.m rfl<|.n (xg El DT rfl (Ls _))<|.r 0 (xz 0 Da rfl (by omega) (by omega))<|.w 0 (xA (mk:=Eh .u32) 0 rfl DY G4 rfl (by omega))<|.nil) rfl fun g16=>CZ 0 (E5 0 1 6 8 9 rfl) rfl<|zC<|(zG [] (.m rfl<|.n (xr rfl (by omega) (IS _))<|.z rfl) ff rfl fun g17=>CZ 0 (E5 0 1 6 7 8 rfl) rfl ?_)
   refine zR<|zC<|(zG [] (.m rfl<|.n (xo rfl (wo (by omega)))<|.z rfl) ff rfl fun g18=>CZ 0 (E5 0 1 6 7 8 rfl) rfl ?_)
   exact yW (k+1,l.set k (s % 4294967296),s/4294967296) (by exact Oc hb ha hI (by omega) hs) (by show b.length-(_+1)<_;omega) (Es (fun _=>E5 8 7 0 1 6 rfl) fun _=>R1 0 rfl)
  have hIl:=hI.hl
  have hIc:=hI.hc
  obtain⟨hdg,hmg⟩:=WY hAB hI (show k=b.length by have:=hI.hk;omega)
  refine D6<|zE<|zE<|zS<|zW (.mm rfl<|.n (xv Da rfl)<|.m rfl<|.n (xg El DT rfl (I0 (by omega) (by omega)))<|.r 0 (xz 0 Da rfl (by omega) (by omega))<|.w 0 (xA (mk:=Eh .u32) 0 rfl DY G4 rfl (by omega))<|.nil) rfl fun g19=>CZ 0 (E1 6 rfl) rfl<|zC<|yN (To.freeze 0 (fun _ h=>h) rfl Dz rfl)<|zV (.m rfl<|.n (zP (HI hdg) ⟨(Lk.sub (Ed 0 rfl) (.t rfl)),trivial⟩)<|.z rfl) rfl fun g20=>CY (E1 4 rfl)<|De<|DO rfl<|D3 (congrArg (fun z=>DP .u32 (CR z.toNat)) (hmg.trans (BU _ _)))
 exact absurd h1 (by omega)
theorem rr{a b:List Int}(ha:Fm a)(hb:Fm b)(hla:a.length≤250000000000)(hlb:b.length≤250000000000):Ct prog 254 [DP .u32 a,DP .u32 b] (DP .u32 (CR (CX a+CX b).toNat)):=if h:a.length<b.length then lX ha hb hla hlb (AX h) h else lW ha hb hla hlb (BQ h)
theorem Rw{a b:List Int}(ha:Fm a)(hb:Fm b)(hla:a.length≤250000000000)(hlb:b.length≤250000000000)(hAB:b.length≤a.length)(hle:CX b≤CX a):Ct prog 255 [DP .u32 a,DP .u32 b] (DP .u32 (CR (CX a-CX b).toNat)):=by
 refine Ct.of func255 rfl (by kernel_rfl) rfl fun c0=>ER 0 rfl fun hlen=>ER 1 rfl fun hlen2=>zV (.b rfl<|.nil) rfl fun g1=>CY (E2 0 1 rfl)<|zC<|DS<|zV (.m rfl<|.n (xv Da rfl)<|.w 0 (DI (mk:=Eh .u32) 0 0 Da I1 rfl (fun _=>⟨rfl,rfl⟩) (.t rfl) (.t rfl) (by omega) (by omega) (by omega) (by omega) rfl)<|.n (yX rfl rfl)<|.nil) rfl fun g2=>CZ 0 (E3 0 1 5 rfl) rfl<|zW (.b rfl<|.nil) rfl fun g3=>CZ 0 (E4 0 1 5 6 rfl) rfl<|Dd<|zV (.b rfl<|.nil) rfl fun g4=>CZ 0 (E5 0 1 5 6 7 rfl) rfl<|zC<|zT<|D4 (α:=Nat×List Int×Int) (fun x=>ia a b x.2.1 x.1 x.2.2) (fun x=>a.length-x.1) (fun x restR=>(7,I6 (x.1:Int))::(6,CW (.int .u64 x.2.2))::restR) (fun x restS=>DC (g2 12) (Eh .u32) x.2.1 256::restS) (ρc:=[(0,_),(1,_),(5,_)]) (σc:=[]) (0,List.replicate (a.length:Int).toNat 0,0) (by exact kN (by omega)) (Es (fun _=>E5 7 6 0 1 5 rfl) fun _=>R1 0 rfl) (fun x hI=>?_)
 obtain⟨k,l,c⟩:=x
 try simp only at hI
 show J _ _ ((7,I6 (k:Int))::(6,CW (.int .u64 c))::_) (DC (g2 12) (Eh .u32) l 256::_) _ _
 refine zF<|zV (.mm rfl<|.n (xv Da rfl)<|.n (xw rfl)<|.nil) rfl fun g5=>CZ 0 (E6 0 1 5 6 7 16 rfl) rfl<|zC<|zh rfl (fun h1=>?_) (fun h1=>?_)<;>try simp only[CT,Z]at h1
 ·have hIk:=hI.hk
  have hIl:=hI.hl
  have hIc:=hI.hc
  have ga:=ha.at (k:=((k:Nat):Int).toNat) (show k<a.length by omega)
  have gd:=j8 hb k
  refine yE<|Dd<|zT<|zV (.m rfl<|.z rfl) rfl fun g6=>CZ 0 (E5 0 1 5 7 8 rfl) rfl<|Dd<|zV (.mm rfl<|.n (xv Da rfl)<|.n (xw rfl)<|.nil) rfl fun g7=>CZ 0 (E6 0 1 5 7 8 23 rfl) rfl<|zC<|zh rfl (fun h2=>?_) (fun h2=>?_)<;>try simp only[CT,Z]at h2
  ·have gb:=hb.at (k:=((k:Nat):Int).toNat) (show k<b.length by omega)
   refine(zG [] (.mm rfl<|.m rfl<|.n (xx 0 Da rfl (by omega) (by omega))<|.n (xy Fb rfl)<|.n (xg DT El rfl (DD (by omega) (by omega)))<|.n (xq rfl (DD (by omega) (by omega)))<|.z rfl) ff rfl fun g8=>CZ 0 (E5 0 1 5 7 8 rfl) rfl ?_)
   refine zC ?_
   obtain⟨y,hy⟩: ∃ y,y=c+Kb b k:=⟨_,rfl⟩
   first|rw[show c+(b.getD ((k:Nat):Int).toNat 0)=y by rw[hy];unfold Kb;rw[if_pos (by omega)];rfl]|rw[show CW (.int .u64 c)=CW (.int .u64 y) by rw[hy];unfold Kb;rw[if_neg (by omega),Ba]]
   refine zV (.mm rfl<|.n (xx 0 Da rfl (by omega) (by omega))<|.n (xy Fb rfl)<|.n (xg DT El rfl (DD (by omega) (by omega)))<|.z rfl) rfl fun g9=>CZ 0 (E6 0 1 5 7 8 9 rfl) rfl<|zW (.mm rfl<|.n (xw rfl)<|.nil) rfl fun g10=>CZ 0 (E7 0 1 5 7 8 9 38 rfl) rfl<|zC<|zh rfl (fun h3=>?_) (fun h3=>?_)<;>try simp only[CT,Z]at h3
   ·refine zV (.mm rfl<|.m rfl<|.n (xo rfl (DD (by omega) (by omega)))<|.m rfl<|.n (Eb (.t rfl) (.t rfl) (DD (by omega) (by omega)))<|.n (xg El DT rfl (I0 (by omega) (by omega)))<|.r 0 (xz 0 Da rfl (by omega) (by omega))<|.w 0 (xA (mk:=Eh .u32) 0 rfl DY G4 rfl (by omega))<|.nil) rfl fun g11=>CZ 0 (E4 0 1 5 7 rfl) rfl<|zC<|(zG [] (.b rfl<|.nil) ff rfl fun g12=>CZ 0 (E5 0 1 5 6 7 rfl) rfl ?_)
    refine zR<|zC<|(zG [] (.m rfl<|.n (xo rfl (wo (by omega)))<|.z rfl) ff rfl fun g13=>CZ 0 (E5 0 1 5 6 7 rfl) rfl ?_)
    exact yW (k+1,l.set k ((a.getD ((k:Nat):Int).toNat 0)+4294967296-y),1) (by first|exact IK ha hb hI (by omega) (.inr rfl) ⟨by omega,by omega⟩ (show(a.getD ((k:Nat):Int).toNat 0)+4294967296-y=(a.getD ((k:Nat):Int).toNat 0) -(c+Kb b k)+4294967296*1 by omega)|exact IK ha hb hI (by omega) (.inl rfl) ⟨by omega,by omega⟩ (show(a.getD ((k:Nat):Int).toNat 0) -y=(a.getD ((k:Nat):Int).toNat 0) -(c+Kb b k)+4294967296*0 by omega)) (by show a.length-(_+1)<_;omega) (Es (fun _=>E5 7 6 0 1 5 rfl) fun _=>R1 0 rfl)
   refine zV (.mm rfl<|.mm rfl<|.n (Eb (.t rfl) (.t rfl) (DD (by omega) (by omega)))<|.n (xg El DT rfl (I0 (by omega) (by omega)))<|.r 0 (xz 0 Da rfl (by omega) (by omega))<|.w 0 (xA (mk:=Eh .u32) 0 rfl DY G4 rfl (by omega))<|.nil) rfl fun g14=>CZ 0 (E4 0 1 5 7 rfl) rfl<|zC<|(zG [] (.b rfl<|.nil) ff rfl fun g15=>CZ 0 (E5 0 1 5 6 7 rfl) rfl ?_)
   refine zR<|zC<|(zG [] (.m rfl<|.n (xo rfl (wo (by omega)))<|.z rfl) ff rfl fun g16=>CZ 0 (E5 0 1 5 6 7 rfl) rfl ?_)
   exact yW (k+1,l.set k ((a.getD ((k:Nat):Int).toNat 0) -y),0) (by first|exact IK ha hb hI (by omega) (.inr rfl) ⟨by omega,by omega⟩ (show(a.getD ((k:Nat):Int).toNat 0)+4294967296-y=(a.getD ((k:Nat):Int).toNat 0) -(c+Kb b k)+4294967296*1 by omega)|exact IK ha hb hI (by omega) (.inl rfl) ⟨by omega,by omega⟩ (show(a.getD ((k:Nat):Int).toNat 0) -y=(a.getD ((k:Nat):Int).toNat 0) -(c+Kb b k)+4294967296*0 by omega)) (by show a.length-(_+1)<_;omega) (Es (fun _=>E5 7 6 0 1 5 rfl) fun _=>R1 0 rfl)
  refine yE<|zC ?_
  obtain⟨y,hy⟩: ∃ y,y=c+Kb b k:=⟨_,rfl⟩
  first|rw[show c+(b.getD ((k:Nat):Int).toNat 0)=y by rw[hy];unfold Kb;rw[if_pos (by omega)];rfl]|rw[show CW (.int .u64 c)=CW (.int .u64 y) by rw[hy];unfold Kb;rw[if_neg (by omega),Ba]]
  refine zV (.mm rfl<|.n (xx 0 Da rfl (by omega) (by omega))<|.n (xy Fb rfl)<|.n (xg DT El rfl (DD (by omega) (by omega)))<|.z rfl) rfl fun g17=>CZ 0 (E6 0 1 5 7 8 9 rfl) rfl<|zW (.mm rfl<|.n (xw rfl)<|.nil) rfl fun g18=>CZ 0 (E7 0 1 5 7 8 9 38 rfl) rfl<|zC<|zh rfl (fun h4=>?_) (fun h4=>?_)<;>try simp only[CT,Z]at h4
  ·refine zV (.mm rfl<|.m rfl<|.n (xo rfl (DD (by omega) (by omega)))<|.m rfl<|.n (Eb (.t rfl) (.t rfl) (DD (by omega) (by omega)))<|.n (xg El DT rfl (I0 (by omega) (by omega)))<|.r 0 (xz 0 Da rfl (by omega) (by omega))<|.w 0 (xA (mk:=Eh .u32) 0 rfl DY G4 rfl (by omega))<|.nil) rfl fun g19=>CZ 0 (E4 0 1 5 7 rfl) rfl<|zC<|(zG [] (.b rfl<|.nil) ff rfl fun g20=>CZ 0 (E5 0 1 5 6 7 rfl) rfl ?_)
   refine zR<|zC<|(zG [] (.m rfl<|.n (xo rfl (wo (by omega)))<|.z rfl) ff rfl fun g21=>CZ 0 (E5 0 1 5 6 7 rfl) rfl ?_)
   exact yW (k+1,l.set k ((a.getD ((k:Nat):Int).toNat 0)+4294967296-y),1) (by first|exact IK ha hb hI (by omega) (.inr rfl) ⟨by omega,by omega⟩ (show(a.getD ((k:Nat):Int).toNat 0)+4294967296-y=(a.getD ((k:Nat):Int).toNat 0) -(c+Kb b k)+4294967296*1 by omega)|exact IK ha hb hI (by omega) (.inl rfl) ⟨by omega,by omega⟩ (show(a.getD ((k:Nat):Int).toNat 0) -y=(a.getD ((k:Nat):Int).toNat 0) -(c+Kb b k)+4294967296*0 by omega)) (by show a.length-(_+1)<_;omega) (Es (fun _=>E5 7 6 0 1 5 rfl) fun _=>R1 0 rfl)
  refine zV (.mm rfl<|.mm rfl<|.n (Eb (.t rfl) (.t rfl) (DD (by omega) (by omega)))<|.n (xg El DT rfl (I0 (by omega) (by omega)))<|.r 0 (xz 0 Da rfl (by omega) (by omega))<|.w 0 (xA (mk:=Eh .u32) 0 rfl DY G4 rfl (by omega))<|.nil) rfl fun g22=>CZ 0 (E4 0 1 5 7 rfl) rfl<|zC<|(zG [] (.b rfl<|.nil) ff rfl fun g23=>CZ 0 (E5 0 1 5 6 7 rfl) rfl ?_)
  refine zR<|zC<|(zG [] (.m rfl<|.n (xo rfl (wo (by omega)))<|.z rfl) ff rfl fun g24=>CZ 0 (E5 0 1 5 6 7 rfl) rfl ?_)
  exact yW (k+1,l.set k ((a.getD ((k:Nat):Int).toNat 0) -y),0) (by first|exact IK ha hb hI (by omega) (.inr rfl) ⟨by omega,by omega⟩ (show(a.getD ((k:Nat):Int).toNat 0)+4294967296-y=(a.getD ((k:Nat):Int).toNat 0) -(c+Kb b k)+4294967296*1 by omega)|exact IK ha hb hI (by omega) (.inl rfl) ⟨by omega,by omega⟩ (show(a.getD ((k:Nat):Int).toNat 0) -y=(a.getD ((k:Nat):Int).toNat 0) -(c+Kb b k)+4294967296*0 by omega)) (by show a.length-(_+1)<_;omega) (Es (fun _=>E5 7 6 0 1 5 rfl) fun _=>R1 0 rfl)
 obtain⟨hdg,hmg⟩:=kM ha hb hAB hle hI (show k=a.length by have:=hI.hk;omega)
 refine D6<|zE<|zE<|zS<|zC<|yN (To.freeze 0 (fun _ h=>h) rfl Dz rfl)<|zV (.m rfl<|.n (zP (HI hdg) ⟨(Lk.sub (Ed 0 rfl) (.t rfl)),trivial⟩)<|.z rfl) rfl fun g25=>CY (E1 4 rfl)<|De<|DO rfl<|D3 (congrArg (fun z=>DP .u32 (CR z.toNat)) hmg)
theorem TL{x y:Nat}:Ct prog 187 [DP .u32 (CR x),DP .u32 (CR y)] (I6 (GS x y)):=by
 refine Ct.of func187 rfl (by kernel_rfl) rfl fun c0=>ER 0 rfl fun hlen=>ER 1 rfl fun hlen2=>zV (.b rfl<|.nil) rfl fun g1=>CY (E2 0 1 rfl)<|Dd<|zV (.m rfl<|.n (xv Da rfl)<|.m rfl<|.n (xv Da rfl)<|.n (xw rfl)<|.nil) rfl fun g2=>CY (E3 0 1 10 rfl)<|zC<|zh rfl (fun h1=>?_) (fun h1=>?_)<;>try simp only[CT,Z]at h1
 ·refine zF<|zV (.m rfl<|.n (xv Da rfl)<|.m rfl<|.n (xv Da rfl)<|.n (xw rfl)<|.nil) rfl fun g3=>CY (E1 15 rfl)<|zC<|zh rfl (fun h2=>?_) (fun h2=>?_)<;>try simp only[CT,Z]at h2
  ·refine zV (.b rfl<|.nil) rfl fun g4=>CY (E1 4 rfl)<|De<|zD<|zD<|DO rfl<|Dc (uL (by omega))
  refine yE<|zW (.b rfl<|.nil) rfl fun g5=>CY (E1 4 rfl)<|De<|zD<|DO rfl<|Dc (uM (by omega))
 have hle:(CR x).length=(CR y).length:=by omega
 refine yE<|Dd<|zV (.m rfl<|.n (xv Da rfl)<|.n (xh rfl (wo (by omega)))<|.z rfl) rfl fun g6=>CY (E3 0 1 5 rfl)<|zC<|zT<|D4 (α:=Nat) (fun k=>QD (CR x) (CR y) k) (fun k=>k) (fun k restR=>(5,I6 ((k:Int) -1))::restR) (fun k restS=>restS) (ρc:=[(0,_),(1,_)]) (σc:=[]) (CR x).length (by exact XN hle rfl) (Es (fun _=>E3 5 0 1 rfl) fun _=>R0) (fun k hI=>?_)
 refine zF<|zV (.m rfl<|.n (xd rfl)<|.nil) rfl fun g7=>CY (E4 0 1 5 20 rfl)<|zC<|zh rfl (fun h3=>?_) (fun h3=>?_)<;>try simp only[CT,Z]at h3
 ·obtain⟨j,rfl⟩: ∃ j,k=j+1:=⟨k-1,by omega⟩
  have hIk:=hI.1
  have ej:(((j+1:Nat):Int) -1).toNat=j:=by omega
  refine yE<|Dd<|zT<|zF<|zF (zG [[],[],[0,1],[0,1,2],[],[],[4,5],[4,5,6],[0,1,2,3,4,5,6,7]] (.mm rfl<|.n (xx 0 Da rfl (by omega) (by omega))<|.n (xy Fb rfl)<|.mm rfl<|.n (xx 0 Da rfl (by omega) (by omega))<|.n (xy Fb rfl)<|.n (xw rfl)<|.nil) (fun _=>Di) rfl fun g8=>CY (E4 0 1 5 31 rfl) ?_)
  refine zC<|zh rfl (fun h4=>?_) (fun h4=>?_)<;>try simp only[CT,Z]at h4
  ·refine zV (.b rfl<|.nil) rfl fun g9=>CY (E1 4 rfl)<|De<|zD<|yP<|zD<|zD<|yP<|zD<|DO rfl<|Dc (uN hle hI (by have e:=h4;rw[ej]at e;exact e))
  refine yE<|zC<|zF (zG [[],[],[0,1],[0,1,2],[],[],[4,5],[4,5,6],[0,1,2,3,4,5,6,7]] (.mm rfl<|.n (xx 0 Da rfl (by omega) (by omega))<|.n (xy Fb rfl)<|.mm rfl<|.n (xx 0 Da rfl (by omega) (by omega))<|.n (xy Fb rfl)<|.n (xw rfl)<|.nil) (fun _=>Di) rfl fun g10=>CY (E4 0 1 5 40 rfl) ?_)
  refine zC<|zh rfl (fun h5=>?_) (fun h5=>?_)<;>try simp only[CT,Z]at h5
  ·refine zV (.b rfl<|.nil) rfl fun g11=>CY (E1 4 rfl)<|De<|yP<|zD<|zD<|yP<|zD<|DO rfl<|Dc (uO hle hI (by have e:=h5;rw[ej]at e;exact e))
  have hn4: ¬(CR x).getD j 0<(CR y).getD j 0:=by have e:=h4;rw[ej]at e;omega
  have hn5: ¬(CR y).getD j 0<(CR x).getD j 0:=by have e:=h5;rw[ej]at e;omega
  refine yE<|zR<|zC<|(zG [] (.m rfl<|.n (xh rfl (wo (by omega)))<|.z rfl) ff rfl fun g12=>CY (E3 0 1 5 rfl) ?_)
  exact yW j (by exact XM hle hI hn4 hn5) (by omega) (Es (fun _=> .sub (t:=5) rfl (yO (by exact congrArg (fun z=>I6 z) (by omega)))<|E2 0 1 rfl) fun _=>R0)
 refine D6<|zE<|zE<|zS<|zW (.b rfl<|.nil) rfl fun g13=>CY (E1 4 rfl)<|De<|DO rfl<|Dc (uP hI (by omega))
theorem HW{a b:List Int}(ha:Fm a)(hb:Fm b)(hla:a.length≤250000000000)(hlb:b.length≤250000000000):Ct prog 145 [DP .u32 a,DP .u32 b] (DP .u32 (CR (CX a*CX b).toNat)):=by
 refine Ct.of func145 rfl (by kernel_rfl) rfl fun c0=>ER 0 rfl fun hlen=>ER 1 rfl fun hlen2=>zV (.b rfl<|.nil) rfl fun g1=>CY (E2 0 1 rfl)<|zC<|DS<|zV (.m rfl<|.n (xv Da rfl)<|.m rfl<|.n (xv Da rfl)<|.n (xq rfl (wo (by omega)))<|.w 0 (DI (mk:=Eh .u32) 0 0 Da I1 rfl (fun _=>⟨rfl,rfl⟩) (.t rfl) (.t rfl) (by omega) (by omega) (by omega) (by omega) rfl)<|.n (yX rfl rfl)<|.nil) rfl fun g2=>CZ 0 (E3 0 1 5 rfl) rfl<|Dd<|zV (.b rfl<|.nil) rfl fun g3=>CZ 0 (E4 0 1 5 6 rfl) rfl<|zC<|zT<|D4 (α:=Nat×List Int) (fun x=>cU a b x.2 x.1) (fun x=>a.length-x.1) (fun x restR=>(6,I6 (x.1:Int))::restR) (fun x restS=>DC (g2 15) (Eh .u32) x.2 256::restS) (ρc:=[(0,_),(1,_),(5,_)]) (σc:=[]) (0,List.replicate (a.length+b.length) 0) (by exact eQ rfl) (To.pick (fun _=>E4 6 0 1 5 rfl) (fun _=> .sub 0 rfl (yQ (by rw[show((a.length:Int)+(b.length:Int)).toNat=a.length+b.length by omega]))<|.nil) (ks:=[0]) rfl) (fun x hI=>?_)
 obtain⟨i,l0⟩:=x
 try simp only at hI
 show J _ _ ((6,I6 (i:Int))::_) (DC (g2 15) (Eh .u32) l0 256::_) _ _
 refine zF<|zV (.mm rfl<|.n (xv Da rfl)<|.n (xw rfl)<|.nil) rfl fun g4=>CZ 0 (E5 0 1 5 6 19 rfl) rfl<|zC<|zh rfl (fun h1=>?_) (fun h1=>?_)<;>try simp only[CT,Z]at h1
 ·have hIi:=hI.hi
  have hIl:=hI.hl
  have ga:=ha.at (k:=((i:Nat):Int).toNat) (show i<a.length by omega)
  refine yE<|Dd<|zT<|zV (.b rfl<|.nil) rfl fun g5=>CZ 0 (E5 0 1 5 6 7 rfl) rfl<|Dd<|zV (.b rfl<|.nil) rfl fun g6=>CZ 0 (E6 0 1 5 6 7 8 rfl) rfl<|zC<|zT<|D4 (α:=Nat×List Int×Int) (fun y=>ic a b l0 y.2.1 i y.1 y.2.2) (fun y=>b.length-y.1) (fun y restR=>(8,I6 (y.1:Int))::(7,CW (.int .u64 y.2.2))::restR) (fun y restS=>DC (g2 15) (Eh .u32) y.2.1 256::restS) (ρc:=[(0,_),(1,_),(5,_),(6,_)]) (σc:=[]) (0,l0,0) (by exact eK hI) (Es (fun _=>E6 8 7 0 1 5 6 rfl) fun _=>R1 0 rfl) (fun y hJ=>?_)
  obtain⟨k,l,c⟩:=y
  try simp only at hJ
  show J _ _ ((8,I6 (k:Int))::(7,CW (.int .u64 c))::_) (DC (g2 15) (Eh .u32) l 256::_) _ _
  refine zF<|zV (.mm rfl<|.n (xv Da rfl)<|.n (xw rfl)<|.nil) rfl fun g7=>CZ 0 (E7 0 1 5 6 7 8 25 rfl) rfl<|zC<|zh rfl (fun h2=>?_) (fun h2=>?_)<;>try simp only[CT,Z]at h2
  ·have hJk:=hJ.hk
   have hJl:=hJ.hl
   have hJc:=hJ.hc
   have gb:=hb.at (k:=((k:Nat):Int).toNat) (show k<b.length by omega)
   have gm:=P0 ga gb
   have gl:=hJ.hd.at (k:=((i:Int)+(k:Int)).toNat) (by omega)
   refine yE<|Dd<|zT<|zF (zG [[],[],[0,1],[0,1,2],[0,1,2,3],[],[],[5,6],[5,6,7],[5,6,7,8],[0,1,2,3,4,5,6,7,8,9],[],[],[],[12,13],[11,12,13,14],[11,12,13,14,15],[11,12,13,14,15,16],[0,1,2,3,4,5,6,7,8,9,10,11,12,13,14,15,16,17],[],[0,1,2,3,4,5,6,7,8,9,10,11,12,13,14,15,16,17,18,19],[0,1,2,3,4,5,6,7,8,9,10,11,12,13,14,15,16,17,18,19,20]] (.mm rfl<|.n (xx 0 Da rfl (by omega) (by omega))<|.n (xy Fb rfl)<|.n (xg DT El rfl (DD (by omega) (by omega)))<|.mm rfl<|.n (xx 0 Da rfl (by omega) (by omega))<|.n (xy Fb rfl)<|.n (xg DT El rfl (DD (by omega) (by omega)))<|.n (xu rfl (DD (by omega) (by omega)))<|.mm rfl<|.m rfl<|.n (xq rfl (wo (by omega)))<|.r 0 (xz 0 Da rfl (by omega) (by omega))<|.r 0 (DH 0 0 Fb (.t rfl) rfl (by omega))<|.n (xg DT El rfl (DD (by omega) (by omega)))<|.n (xq rfl (DD (by omega) (by omega)))<|.m rfl<|.n (xq rfl (DD (by omega) (by omega)))<|.z rfl) (fun _=>Di) rfl fun g8=>CZ 0 (E6 0 1 5 6 8 9 rfl) rfl ?_)
   refine zC ?_
   obtain⟨t,ht⟩: ∃ t,t=a.getD i 0*b.getD k 0+l.getD (i+k) 0+c:=⟨_,rfl⟩
   rw[show a.getD ((i:Nat):Int).toNat 0*b.getD ((k:Nat):Int).toNat 0+l.getD ((i:Int)+(k:Int)).toNat 0+c=t from ht.symm]
   refine zV (.mm rfl<|.m rfl<|.n (xq rfl (wo (by omega)))<|.m rfl<|.n (xg El DT rfl (Ls _))<|.r 0 (xz 0 Da rfl (by omega) (by omega))<|.w 0 (xA (mk:=Eh .u32) 0 rfl DY G4 rfl (by omega))<|.nil) rfl fun g9=>CZ 0 (E6 0 1 5 6 8 9 rfl) rfl<|zC<|(zG [] (.m rfl<|.n (xr rfl (by omega) (IS _))<|.z rfl) ff rfl fun g10=>CZ 0 (E6 0 1 5 6 7 8 rfl) rfl ?_)
   refine zR<|zC<|(zG [] (.m rfl<|.n (xo rfl (wo (by omega)))<|.z rfl) ff rfl fun g11=>CZ 0 (E6 0 1 5 6 7 8 rfl) rfl ?_)
   exact yW (k+1,l.set (i+k) (t % 4294967296),t/4294967296) (by exact eJ ha hb hJ (by omega) (by omega) hI.hl ht) (by show b.length-(_+1)<_;omega) (Es (fun _=>E6 8 7 0 1 5 6 rfl) fun _=>R1 0 rfl)
  have hJk:=hJ.hk
  have hJl:=hJ.hl
  have hJc:=hJ.hc
  refine D6<|zE<|zE<|zS<|zC<|(zG [] (.mm rfl<|.m rfl<|.n (xv Da rfl)<|.n (xq rfl (wo (by omega)))<|.m rfl<|.n (xg El DT rfl (I0 (by omega) (by omega)))<|.r 0 (xz 0 Da rfl (by omega) (by omega))<|.w 0 (xA (mk:=Eh .u32) 0 rfl DY G4 rfl (by omega))<|.nil) ff rfl fun g12=>CZ 0 (E4 0 1 5 6 rfl) rfl ?_)
  refine zR<|zC<|(zG [] (.m rfl<|.n (xo rfl (wo (by omega)))<|.z rfl) ff rfl fun g13=>CZ 0 (E4 0 1 5 6 rfl) rfl ?_)
  exact yW (i+1,l.set (i+b.length) c) (by exact eO hI hJ (by omega) (by omega)) (by show a.length-(_+1)<_;omega) (Es (fun _=>E4 6 0 1 5 rfl) fun _=>R1 0 rfl)
 obtain⟨hdg,hmg⟩:=eM hI (show i=a.length by have:=hI.hi;omega)
 refine D6<|zE<|zE<|zS<|zC<|yN (To.freeze 0 (fun _ h=>h) rfl Dz rfl)<|zV (.m rfl<|.n (zP (HI hdg) ⟨(Lk.sub (Ed 0 rfl) (.t rfl)),trivial⟩)<|.z rfl) rfl fun g14=>CY (E1 4 rfl)<|De<|DO rfl<|D3 (congrArg (fun z=>DP .u32 (CR z.toNat)) hmg)
theorem OD{n:Nat}(hn:n<18446744073709551616):Ct prog 253 [CW (.int .u64 (n:Int))] (DP .u32 (CR n)):=by
 refine Ct.of func253 rfl (by kernel_rfl) rfl fun c0=>zV (.b rfl<|.nil) rfl fun g1=>CY (E1 0 rfl)<|zW (.m rfl<|.n (xg El DT rfl (Ls _))<|.m rfl<|.n (xr rfl (by omega) (IS _))<|.n (xg El DT rfl (I0 (by omega) (by omega)))<|.n (xC Da I1 rfl (.g D7 rfl (.g D7 rfl .nil)))<|.n (zP (ph (pv (by omega) (by omega))) (A1 rfl))<|.z rfl) rfl fun g2=>CY (E1 2 rfl)<|De<|DO rfl<|D3 (congrArg (fun z=>DP .u32 z) (gM hn))
theorem b9{m:List Int}{n:Nat}(hm:Fm m)(hlm:m.length≤250000000000)(hn:n≤8000000000000):Ct prog 237 [DP .u32 m,CW (.int .u64 (n:Int))] (DP .u32 (CR (CX m*2^n).toNat)):=by
 refine Ct.of func237 rfl (by kernel_rfl) rfl fun c0=>ER 0 rfl fun hlen=>?_
 have hs32:n % 32<32:=Ap _ (by omega)
 obtain⟨hp1,hp2,hp3,hp4⟩:=Nl hs32
 refine zV (.b rfl<|.nil) rfl fun g1=>CY (E2 0 1 rfl)<|Dd<|zV (.m rfl<|.n (xv Da rfl)<|.n (xd rfl)<|.nil) rfl fun g2=>CY (E3 0 1 12 rfl)<|zC<|zh rfl (fun h1=>?_) (fun h1=>?_)<;>try simp only[CT,Z]at h1
 ·refine zV (.b rfl<|.nil) rfl fun g3=>CY (E1 4 rfl)<|De<|zD<|zQ (.cons (.tmp (.t rfl))<|.nil) (zM (yD (Dr (mk:=Eh .u32))) ?_)
  have hm0:m=[]:=BC.1 (by omega)
  exact D3 (by rw[hm0];simp[CX,Fg])
 refine yE<|zW (.m rfl<|.n (Gq (.t rfl) (.k rfl) (by omega) (mn n (by omega)))<|.n (xg I8 KL rfl (wo (by omega)))<|.z rfl) rfl fun g4=>CY (E3 0 1 5 rfl)<|zW (.m rfl<|.n (Gr (.t rfl) (.k rfl) (by omega) (mv n))<|.z rfl) rfl fun g5=>CY (E3 0 5 6 rfl)<|zC<|DS<|zV (.mm rfl<|.n (xv Da rfl)<|.n (xq rfl (wo (by omega)))<|.n (xo rfl (wo (by omega)))<|.w 0 (DI (mk:=Eh .u32) 0 0 Da I1 rfl (fun _=>⟨rfl,rfl⟩) (.t rfl) (.t rfl) (by omega) (by omega) (by omega) (by omega) rfl)<|.n (yX rfl rfl)<|.nil) rfl fun g6=>CZ 0 (E4 0 5 6 7 rfl) rfl<|Dd<|zV (.b rfl<|.nil) rfl fun g7=>CZ 0 (E5 0 5 6 7 8 rfl) rfl<|zC<|zT<|D4 (α:=Nat×List Int) (fun x=>Ye m x.2 (n/32) (2^(n % 32)) x.1) (fun x=>m.length-x.1) (fun x restR=>(8,I6 (x.1:Int))::restR) (fun x restS=>DC (g6 23) (Eh .u32) x.2 256::restS) (ρc:=[(0,_),(5,_),(6,_),(7,_)]) (σc:=[]) (0,List.replicate (n/32+m.length+1) 0) (by exact Wg rfl hp1) (To.pick (fun _=>E5 8 0 5 6 7 rfl) (fun _=> .sub 0 rfl (yQ (by rw[show(((n/32:Nat):Int)+(m.length:Int)+1).toNat=n/32+m.length+1 by omega]))<|.nil) (ks:=[0]) rfl) (fun x hI=>?_)
 obtain⟨i,l⟩:=x
 try simp only at hI
 show J _ _ ((8,I6 (i:Int))::_) (DC (g6 23) (Eh .u32) l 256::_) _ _
 refine zF<|zV (.mm rfl<|.n (xv Da rfl)<|.n (xw rfl)<|.nil) rfl fun g8=>CZ 0 (E6 0 5 6 7 8 27 rfl) rfl<|zC<|zh rfl (fun h2=>?_) (fun h2=>?_)<;>try simp only[CT,Z]at h2
 ·have hIi:=hI.hi
  have hIl:=hI.hl
  have gm:=hm.at (k:=((i:Nat):Int).toNat) (show i<m.length by omega)
  have gl:=hI.hd.at (k:=(((n/32:Nat):Int)+(i:Int)).toNat) (by omega)
  obtain⟨x,hx⟩: ∃ x,x=m.getD i 0:=⟨_,rfl⟩
  obtain⟨t,ht⟩: ∃ t,t=x*2^(n % 32):=⟨_,rfl⟩
  have htx:m.getD ((i:Nat):Int).toNat 0*2^(n % 32)=t:=by rw[ht,hx];rfl
  have hor:Ej .or .u32 (l.getD (((n/32:Nat):Int)+(i:Int)).toNat 0) (t % 4294967296)=l.getD (n/32+i) 0+t % 4294967296:=jW hs32 hm hI (show i<m.length by omega) hx ht
  have hpt:=Mg (x:=x) (p:=2^(n % 32)) (by rw[hx];exact gm) hp1 hp2 hp3
  rw[←ht]at hpt
  refine yE<|Dd<|zT<|zV (.mm rfl<|.n (xx 0 Da rfl (by omega) (by omega))<|.n (xy Fb rfl)<|.n (xg DT El rfl (DD (by omega) (by omega)))<|.m rfl<|.n (GD (.t rfl) (.t rfl) (by omega) (tO gm hs32))<|.z rfl) rfl fun g9=>CZ 0 (E6 0 5 6 7 8 9 rfl) rfl<|zC ?_
  rw[htx]
  refine zV (.mm rfl<|.m rfl<|.n (xq rfl (wo (by omega)))<|.r 0 (xz 0 Da rfl (by omega) (by omega))<|.r 0 (DH 0 0 Fb (.t rfl) rfl (by omega))<|.m rfl<|.n (xg El DT rfl (Ls _))<|.n (Ep (by simp) (.t rfl) (.t rfl) hor)<|.r 0 (xz 0 Da rfl (by omega) (by omega))<|.w 0 (xA (mk:=Eh .u32) 0 rfl DY G4 rfl (by omega))<|.nil) rfl fun g10=>CZ 0 (E6 0 5 6 7 8 9 rfl) rfl<|zC<|(zG [] (.mm rfl<|.m rfl<|.n (xq rfl (wo (by omega)))<|.n (xo rfl (wo (by omega)))<|.m rfl<|.n (xr rfl (by omega) (IS _))<|.n (xg El DT rfl (I0 (by omega) (by omega)))<|.r 0 (xz 0 Da rfl (by omega) (by rw[Aa];omega))<|.w 0 (xA (mk:=Eh .u32) 0 rfl DY G4 rfl (by rw[Aa];omega))<|.nil) ff rfl fun g11=>CZ 0 (E5 0 5 6 7 8 rfl) rfl ?_)
  refine zR<|zC<|(zG [] (.m rfl<|.n (xo rfl (wo (by omega)))<|.z rfl) ff rfl fun g12=>CZ 0 (E5 0 5 6 7 8 rfl) rfl ?_)
  exact yW (i+1,(l.set (n/32+i) (l.getD (n/32+i) 0+t % 4294967296)).set (n/32+i+1) (t/4294967296)) (by exact We hm hI (by omega) hp1 hp2 hp3 hx ht) (by show m.length-(_+1)<_;omega) (Es (fun _=>E5 8 0 5 6 7 rfl) fun _=>R1 0 rfl)
 obtain⟨hdg,hmg⟩:=Wd hI (show i=m.length by have:=hI.hi;omega)
 rw[b8]at hmg
 refine D6<|zE<|zE<|zS<|zC<|yN (To.freeze 0 (fun _ h=>h) rfl Dz rfl)<|zV (.m rfl<|.n (zP (HI hdg) ⟨(Lk.sub (Ed 0 rfl) (.t rfl)),trivial⟩)<|.z rfl) rfl fun g13=>CY (E1 4 rfl)<|De<|DO rfl<|D3 (congrArg (fun z=>DP .u32 (CR z.toNat)) hmg)
end Go.Proofs.YtgfanjebfjeneaaGreatDoor
