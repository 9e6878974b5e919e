/- Printed by a program of ours (walk.py): walks of quotients by one word of 64 bits. -/
import Derived.Test.YtgfanjebfjeneaaGreatDoorZqM1
import Derived.Test.YtgfanjebfjeneaaGreatDoorProg
import Derived.KernelRfl
import Derived.Test.YtgfanjebfjeneaaGreatDoorZqM11
import Derived.Test.YtgfanjebfjeneaaGreatDoorZqM12
set_option linter.unusedVariables false
set_option linter.unusedSimpArgs false
set_option maxRecDepth 20000
set_option maxHeartbeats 8000000
namespace Go.Proofs.YtgfanjebfjeneaaGreatDoor
open Go Go.Bn Go.Proofs.Tryz
attribute [local irreducible] OpOK
theorem VK{hi lo y:Int}(h0:0≤hi)(hy:hi<y)(hl:0≤lo∧lo<18446744073709551616)(hy1:y<18446744073709551616):Ct prog 248 [CW (.int .u64 (hi)),CW (.int .u64 (lo)),CW (.int .u64 (y))] (EP [CW (.int .u64 ((hi*18446744073709551616+lo)/y)),CW (.int .u64 ((hi*18446744073709551616+lo) % y))]):=by
 refine Ct.of func248 rfl (by kernel_rfl) rfl fun c0=>?_
 obtain⟨S,P,Y,T,L,hS,hS2,hP1,hY,hYr,hYs,hT,hL,hTr,hLr,hN,hsh⟩:=pz h0 hy hl hy1
 have hYd:Y=Y/4294967296*4294967296+Y % 4294967296:=by omega
 have hDW:=jb (u:=L/4294967296) hYr.1 hYr.2 hTr.1 hTr.2 (by omega)
 obtain⟨V,hV⟩: ∃ V,V=(T*4294967296+L/4294967296) % Y:=⟨_,rfl⟩
 have hV0:0≤V∧V<Y:=by rw[hV];exact⟨Ay _ (by omega),AB _ (by omega)⟩
 have hDX:=jb (u:=L % 4294967296) hYr.1 hYr.2 hV0.1 hV0.2 (by omega)
 have t0:=Ay T (show Y/4294967296≠0 by omega)
 have t1:=AB T (show 0<Y/4294967296 by omega)
 have v0:=Ay V (show Y/4294967296≠0 by omega)
 have v1:=AB V (show 0<Y/4294967296 by omega)
 have tq:T/(Y/4294967296)*(Y/4294967296)+T % (Y/4294967296)=T:=by rw[Ab];exact AR _ _
 have vq:V/(Y/4294967296)*(Y/4294967296)+V % (Y/4294967296)=V:=by rw[Ab];exact AR _ _
 have tz:=KJ hDW
 have vz:=KJ hDX
 have tz1:=tz.hg
 have vz1:=vz.hg
 have tp:=Ae (AY hTr.1 (show 0≤Y/4294967296 by omega)) (show 0≤Y/4294967296 by omega)
 have vp:=Ae (AY hV0.1 (show 0≤Y/4294967296 by omega)) (show 0≤Y/4294967296 by omega)
 have dq1:=KU hDW
 have dq2:=KU hDX
 refine zV (.b rfl<|.b rfl<|.nil) rfl fun g1=>CY (E3 0 1 2 rfl)<|Dd<|zV (.m rfl<|.n (xd rfl)<|.nil) rfl fun g2=>CY (E4 0 1 2 20 rfl)<|zC<|zh rfl (fun h1=>?_) (fun h1=>?_)<;>try simp only[CT,Z]at h1
 ·exact absurd h1 (by omega)
 refine yE<|Dd<|zV (.mm rfl<|.n (xw rfl)<|.nil) rfl fun g3=>CY (E4 0 1 2 24 rfl)<|zC<|zh rfl (fun h2=>?_) (fun h2=>?_)<;>try simp only[CT,Z]at h2
 ·exact absurd h2 (by omega)
 refine yE<|Dd<|zV (.m rfl<|.n (xd rfl)<|.nil) rfl fun g4=>CY (E4 0 1 2 27 rfl)<|zC<|zh rfl (fun h3=>?_) (fun h3=>?_)<;>try simp only[CT,Z]at h3
 ·have hz:hi=0:=by omega
  refine zF (zG [[],[],[0,1],[],[],[3,4],[0,1,2],[0,1,2,3,4,5,6]] (.mm rfl<|.n (Gq (.t rfl) (.t rfl) (by omega) (RP hl.1 hl.2 (by omega)))<|.mm rfl<|.n (Gr (.t rfl) (.t rfl) (by omega) (BY hl.1))<|.a rfl<|.z rfl) (fun _=>Di) rfl fun g5=>CY (E2 6 7 rfl) ?_)
  refine De<|zD<|Lt rfl<|D3 (by rw[hz,Int.zero_mul,Int.zero_add])
 refine yE<|zW (.m rfl<|.n (zP (bn (by omega) (by omega)) (A1 rfl))<|.n (xg KL I8 rfl (show IntKind.u64.wrap (64-(bl y.toNat:Int))=((S:Nat):Int) by rw[←hS2];exact DD (by omega) (by omega)))<|.z rfl) rfl fun g6=>CY (E4 0 1 2 8 rfl)<|zW (.mm rfl<|.n (GD (.t rfl) (.t rfl) (by omega) hYs)<|.z rfl) rfl fun g7=>CY (E4 0 1 2 8 rfl)<|zW (.m rfl<|.n (xr rfl (by omega) (IS _))<|.z rfl) rfl fun g8=>CY (E5 0 1 2 8 9 rfl)<|zW (.m rfl<|.n (Ep (by simp) (.t rfl) (.k rfl) (SH (by omega) hYr.2))<|.z rfl) rfl fun g9=>CY (E6 0 1 2 8 9 10 rfl)<|zW (.mm rfl<|.n (GD (.t rfl) (.t rfl) (by omega) rfl)<|.mm rfl<|.n (Eb (.k rfl) (.t rfl) (XD hS))<|.n (GV (.t rfl) (.t rfl) (by omega) rfl)<|.n (Ep (by simp) (.t rfl) (.t rfl) hT)<|.z rfl) rfl fun g10=>CY (E6 1 2 8 9 10 11 rfl)<|zW (.mm rfl<|.n (GD (.t rfl) (.t rfl) (by omega) hL)<|.z rfl) rfl fun g11=>CY (E6 2 8 9 10 11 12 rfl)<|zW (.m rfl<|.n (xr rfl (by omega) (IS _))<|.z rfl) rfl fun g12=>CY (E7 2 8 9 10 11 12 13 rfl)<|zW (.m rfl<|.n (Ep (by simp) (.t rfl) (.k rfl) (SH hLr.1 hLr.2))<|.z rfl) rfl fun g13=>CY (E7 2 8 9 10 11 13 14 rfl)<|zW (.mm rfl<|.n (Gq (.t rfl) (.t rfl) (by omega) (RP hTr.1 (by omega) (by omega)))<|.z rfl) rfl fun g14=>CY (E8 2 8 9 10 11 13 14 15 rfl)<|zW (.mm rfl<|.m rfl<|.n (xu rfl (DD (by omega) (by omega)))<|.n (Eb (.t rfl) (.t rfl) (show IntKind.u64.wrap (T-T/(Y/4294967296)*(Y/4294967296))=T % (Y/4294967296) by rw[DD (by omega) (by omega)];omega))<|.z rfl) rfl fun g15=>CY (E9 2 8 9 10 11 13 14 15 16 rfl)<|Dd<|zT<|D4 (α:=Int×Int) (fun z=>Si T (Y/4294967296) (Y % 4294967296) (L/4294967296) ((T*4294967296+L/4294967296)/Y) z.1 z.2∧z.2<4294967296) (fun z=>(4294967296-z.2).toNat) (fun z restR=>(15,CW (.int .u64 (z.1)))::(16,CW (.int .u64 (z.2)))::restR) (fun z restS=>restS) (ρc:=[(2,_),(8,_),(9,_),(10,_),(11,_),(13,_),(14,_)]) (σc:=[]) (T/(Y/4294967296),T % (Y/4294967296)) (by exact⟨KJ hDW,by show T % _<_;omega⟩) (Es (fun _=>E9 15 16 2 8 9 10 11 13 14 rfl) fun _=>R0) (fun z hJ=>?_)
 obtain⟨g,r⟩:=z
 try simp only at hJ
 show J _ _ ((15,CW (.int .u64 (g)))::(16,CW (.int .u64 (r)))::_) (_) _ _
 obtain⟨hJ1,hJ2⟩:=hJ
 have hJq:=hJ1.hq
 have hJg:=hJ1.hg
 have hJr:=hJ1.hr
 have hJ0:0≤g:=by have:=KU hDW;omega
 refine zF<|zV (.m rfl<|.n (xd rfl)<|.m rfl<|.n (gu rfl (fun hC=>(xB rfl)))<|.n (gu rfl (fun hC=>(xB rfl)))<|.n (gu rfl (fun hC=>(Fi (.w rfl hC) (.w rfl hC) (Ua hC hJ0 (show 0≤Y % 4294967296∧Y % 4294967296<4294967296 by omega)))))<|.n (gu rfl (fun hC=>(xB rfl)))<|.n (gu rfl (fun hC=>(Fi (.k rfl) (.w rfl hC) (DD (by omega) (by omega)))))<|.n (gu rfl (fun hC=>(xB rfl)))<|.n (gu rfl (fun hC=>(yK (.w rfl hC) (.w rfl hC) (DD (by omega) (by omega)))))<|.n (gu rfl (fun hC=>(oc rfl (.w rfl hC) (.w rfl hC) rfl)))<|.n (Fk (.t rfl) (fun h2=>(.w rfl h2)))<|.nil) rfl fun g16=>CY (I4 2 8 9 10 11 13 14 15 16 78 rfl)<|zC<|zh rfl (fun h4=>?_) (fun h4=>?_)<;>have h4':=h4<;>try simp only[CT,Z]at h4
 ·have hDWs:=OB hDW hJ1 (by have h:=h4';simp only[CT,Bm,decide_eq_true_eq]at h;rcases h with h|h;exact .inl (by omega);exact .inr (by omega))
  have hDWq:=hDWs.hq
  refine yE<|zC<|zT<|zV (.m rfl<|.n (xh rfl (DD (by omega) (by omega)))<|.z rfl) rfl fun g17=>CY (E9 2 8 9 10 11 13 14 15 16 rfl)<|zW (.mm rfl<|.n (xq rfl (DD (by omega) (by omega)))<|.z rfl) rfl fun g18=>CY (E9 2 8 9 10 11 13 14 15 16 rfl)<|zW (.m rfl<|.n (xd rfl)<|.nil) rfl fun g19=>CY (I4 2 8 9 10 11 13 14 15 16 85 rfl)<|zC<|zh rfl (fun h5=>?_) (fun h5=>?_)<;>have h5':=h5<;>try simp only[CT,Z]at h5
  ·have hge:g-1=(T*4294967296+L/4294967296)/Y:=Jq hDW rfl hYd hDWs (by omega) (.inl (by have h:=h5';simp[CT]at h;omega))
   refine D6<|Hl rfl<|zE<|zS<|zW (.m rfl<|.n (Fi (.t rfl) (.k rfl) rfl)<|.m rfl<|.n (yK (.t rfl) (.t rfl) rfl)<|.mm rfl<|.n (Fi (.t rfl) (.t rfl) rfl)<|.n (Eb (.t rfl) (.t rfl) (show _=V by rw[hV];exact OP hYr.1 hYr.2 hge))<|.z rfl) rfl fun g20=>CY (E7 2 8 9 10 14 15 17 rfl)<|zW (.mm rfl<|.n (Gq (.t rfl) (.t rfl) (by omega) (RP hV0.1 (by omega) (by omega)))<|.z rfl) rfl fun g21=>CY (E8 2 8 9 10 14 15 17 18 rfl)<|zW (.mm rfl<|.m rfl<|.n (xu rfl (DD (by omega) (by omega)))<|.n (Eb (.t rfl) (.t rfl) (show IntKind.u64.wrap (V-V/(Y/4294967296)*(Y/4294967296))=V % (Y/4294967296) by rw[DD (by omega) (by omega)];omega))<|.z rfl) rfl fun g22=>CY (E9 2 8 9 10 14 15 16 17 18 rfl)<|Dd<|zT<|D4 (α:=Int×Int) (fun z=>Si V (Y/4294967296) (Y % 4294967296) (L % 4294967296) ((V*4294967296+L % 4294967296)/Y) z.1 z.2∧z.2<4294967296) (fun z=>(4294967296-z.2).toNat) (fun z restR=>(18,CW (.int .u64 (z.1)))::(16,CW (.int .u64 (z.2)))::restR) (fun z restS=>restS) (ρc:=[(2,_),(8,_),(9,_),(10,_),(14,_),(15,_),(17,_)]) (σc:=[]) (V/(Y/4294967296),V % (Y/4294967296)) (by exact⟨KJ hDX,by show V % _<_;omega⟩) (Es (fun _=>E9 18 16 2 8 9 10 14 15 17 rfl) fun _=>R0) (fun z hK=>?_)
   obtain⟨k,q⟩:=z
   try simp only at hK
   show J _ _ ((18,CW (.int .u64 (k)))::(16,CW (.int .u64 (q)))::_) (_) _ _
   obtain⟨hK1,hK2⟩:=hK
   have hKq:=hK1.hq
   have hKg:=hK1.hg
   have hKr:=hK1.hr
   have hK0:0≤k:=by have:=KU hDX;omega
   refine zF<|zV (.m rfl<|.n (xd rfl)<|.m rfl<|.n (gu rfl (fun hC=>(xB rfl)))<|.n (gu rfl (fun hC=>(xB rfl)))<|.n (gu rfl (fun hC=>(Fi (.w rfl hC) (.w rfl hC) (Ua hC hK0 (show 0≤Y % 4294967296∧Y % 4294967296<4294967296 by omega)))))<|.n (gu rfl (fun hC=>(xB rfl)))<|.n (gu rfl (fun hC=>(Fi (.k rfl) (.w rfl hC) (DD (by omega) (by omega)))))<|.n (gu rfl (fun hC=>(xB rfl)))<|.n (gu rfl (fun hC=>(yK (.w rfl hC) (.w rfl hC) (DD (by omega) (by omega)))))<|.n (gu rfl (fun hC=>(oc rfl (.w rfl hC) (.w rfl hC) rfl)))<|.n (Fk (.t rfl) (fun h2=>(.w rfl h2)))<|.nil) rfl fun g23=>CY (I4 2 8 9 10 14 15 16 17 18 113 rfl)<|zC<|zh rfl (fun h6=>?_) (fun h6=>?_)<;>have h6':=h6<;>try simp only[CT,Z]at h6
   ·have hDXs:=OB hDX hK1 (by have h:=h6';simp only[CT,Bm,decide_eq_true_eq]at h;rcases h with h|h;exact .inl (by omega);exact .inr (by omega))
    have hDXq:=hDXs.hq
    refine yE<|zC<|zT<|zV (.m rfl<|.n (xh rfl (DD (by omega) (by omega)))<|.z rfl) rfl fun g24=>CY (E9 2 8 9 10 14 15 16 17 18 rfl)<|zW (.mm rfl<|.n (xq rfl (DD (by omega) (by omega)))<|.z rfl) rfl fun g25=>CY (E9 2 8 9 10 14 15 16 17 18 rfl)<|zW (.m rfl<|.n (xd rfl)<|.nil) rfl fun g26=>CY (I4 2 8 9 10 14 15 16 17 18 120 rfl)<|zC<|zh rfl (fun h7=>?_) (fun h7=>?_)<;>have h7':=h7<;>try simp only[CT,Z]at h7
    ·have hke:k-1=(V*4294967296+L % 4294967296)/Y:=Jq hDX rfl hYd hDXs (by omega) (.inl (by have h:=h7';simp[CT]at h;omega))
     refine D6<|Hl rfl<|zE<|zS<|zW (.m rfl<|.n (Fi (.t rfl) (.k rfl) (DD (by omega) (by omega)))<|.m rfl<|.n (xq rfl (DD (by omega) (by omega)))<|.m rfl<|.n (Fi (.t rfl) (.k rfl) rfl)<|.m rfl<|.n (yK (.t rfl) (.t rfl) rfl)<|.mm rfl<|.n (Fi (.t rfl) (.t rfl) rfl)<|.n (Eb (.t rfl) (.t rfl) (OP hYr.1 hYr.2 hke))<|.m rfl<|.n (GV (.t rfl) (.t rfl) (by omega) (hsh _))<|.a rfl<|.z rfl) rfl fun g27=>CY (E2 6 7 rfl)<|De<|Lt rfl ?_
     have hfin:=Q1 (S:=P) (by omega) (by omega) hY hN (show(T*4294967296+L/4294967296)=(T*4294967296+L/4294967296)/Y*Y+V by rw[hV];exact Lz _ _) (Lz (V*4294967296+L % 4294967296) Y) (Ay _ (by omega)) (AB _ (by omega))
     rw[←hge,←hke]at hfin
     exact D3 (by rw[hfin.1,hfin.2])
    refine yE<|zR<|yW (k-1,q+Y/4294967296) (by exact⟨hDXs,by show q+_<_;omega⟩) (by show(4294967296-(q+Y/4294967296)).toNat<(4294967296-q).toNat;omega) (Es (fun _=>E9 18 16 2 8 9 10 14 15 17 rfl) fun _=>R0)
   have hke:k=(V*4294967296+L % 4294967296)/Y:=Jq hDX rfl hYd hK1 (by have h:=h6';simp[CT]at h;omega) (.inr (by have h:=h6';simp only[CT,AQ,decide_eq_false_iff_not]at h;have h:=h.2;omega))
   refine D6<|zE<|zE<|zS<|zW (.m rfl<|.n (Fi (.t rfl) (.k rfl) (DD (by omega) (by omega)))<|.m rfl<|.n (xq rfl (DD (by omega) (by omega)))<|.m rfl<|.n (Fi (.t rfl) (.k rfl) rfl)<|.m rfl<|.n (yK (.t rfl) (.t rfl) rfl)<|.mm rfl<|.n (Fi (.t rfl) (.t rfl) rfl)<|.n (Eb (.t rfl) (.t rfl) (OP hYr.1 hYr.2 hke))<|.m rfl<|.n (GV (.t rfl) (.t rfl) (by omega) (hsh _))<|.a rfl<|.z rfl) rfl fun g28=>CY (E2 6 7 rfl)<|De<|Lt rfl ?_
   have hfin:=Q1 (S:=P) (by omega) (by omega) hY hN (show(T*4294967296+L/4294967296)=(T*4294967296+L/4294967296)/Y*Y+V by rw[hV];exact Lz _ _) (Lz (V*4294967296+L % 4294967296) Y) (Ay _ (by omega)) (AB _ (by omega))
   rw[←hge,←hke]at hfin
   exact D3 (by rw[hfin.1,hfin.2])
  refine yE<|zR<|yW (g-1,r+Y/4294967296) (by exact⟨hDWs,by show r+_<_;omega⟩) (by show(4294967296-(r+Y/4294967296)).toNat<(4294967296-r).toNat;omega) (Es (fun _=>E9 15 16 2 8 9 10 11 13 14 rfl) fun _=>R0)
 have hge:g=(T*4294967296+L/4294967296)/Y:=Jq hDW rfl hYd hJ1 (by have h:=h4';simp[CT]at h;omega) (.inr (by have h:=h4';simp only[CT,AQ,decide_eq_false_iff_not]at h;have h:=h.2;omega))
 refine D6<|zE<|zE<|zS<|zW (.m rfl<|.n (Fi (.t rfl) (.k rfl) rfl)<|.m rfl<|.n (yK (.t rfl) (.t rfl) rfl)<|.mm rfl<|.n (Fi (.t rfl) (.t rfl) rfl)<|.n (Eb (.t rfl) (.t rfl) (show _=V by rw[hV];exact OP hYr.1 hYr.2 hge))<|.z rfl) rfl fun g29=>CY (E7 2 8 9 10 14 15 17 rfl)<|zW (.mm rfl<|.n (Gq (.t rfl) (.t rfl) (by omega) (RP hV0.1 (by omega) (by omega)))<|.z rfl) rfl fun g30=>CY (E8 2 8 9 10 14 15 17 18 rfl)<|zW (.mm rfl<|.m rfl<|.n (xu rfl (DD (by omega) (by omega)))<|.n (Eb (.t rfl) (.t rfl) (show IntKind.u64.wrap (V-V/(Y/4294967296)*(Y/4294967296))=V % (Y/4294967296) by rw[DD (by omega) (by omega)];omega))<|.z rfl) rfl fun g31=>CY (E9 2 8 9 10 14 15 16 17 18 rfl)<|Dd<|zT<|D4 (α:=Int×Int) (fun z=>Si V (Y/4294967296) (Y % 4294967296) (L % 4294967296) ((V*4294967296+L % 4294967296)/Y) z.1 z.2∧z.2<4294967296) (fun z=>(4294967296-z.2).toNat) (fun z restR=>(18,CW (.int .u64 (z.1)))::(16,CW (.int .u64 (z.2)))::restR) (fun z restS=>restS) (ρc:=[(2,_),(8,_),(9,_),(10,_),(14,_),(15,_),(17,_)]) (σc:=[]) (V/(Y/4294967296),V % (Y/4294967296)) (by exact⟨KJ hDX,by show V % _<_;omega⟩) (Es (fun _=>E9 18 16 2 8 9 10 14 15 17 rfl) fun _=>R0) (fun z hK=>?_)
 obtain⟨k,q⟩:=z
 try simp only at hK
 show J _ _ ((18,CW (.int .u64 (k)))::(16,CW (.int .u64 (q)))::_) (_) _ _
 obtain⟨hK1,hK2⟩:=hK
 have hKq:=hK1.hq
 have hKg:=hK1.hg
 have hKr:=hK1.hr
 have hK0:0≤k:=by have:=KU hDX;omega
 refine zF<|zV (.m rfl<|.n (xd rfl)<|.m rfl<|.n (gu rfl (fun hC=>(xB rfl)))<|.n (gu rfl (fun hC=>(xB rfl)))<|.n (gu rfl (fun hC=>(Fi (.w rfl hC) (.w rfl hC) (Ua hC hK0 (show 0≤Y % 4294967296∧Y % 4294967296<4294967296 by omega)))))<|.n (gu rfl (fun hC=>(xB rfl)))<|.n (gu rfl (fun hC=>(Fi (.k rfl) (.w rfl hC) (DD (by omega) (by omega)))))<|.n (gu rfl (fun hC=>(xB rfl)))<|.n (gu rfl (fun hC=>(yK (.w rfl hC) (.w rfl hC) (DD (by omega) (by omega)))))<|.n (gu rfl (fun hC=>(oc rfl (.w rfl hC) (.w rfl hC) rfl)))<|.n (Fk (.t rfl) (fun h2=>(.w rfl h2)))<|.nil) rfl fun g32=>CY (I4 2 8 9 10 14 15 16 17 18 113 rfl)<|zC<|zh rfl (fun h8=>?_) (fun h8=>?_)<;>have h8':=h8<;>try simp only[CT,Z]at h8
 ·have hDXs:=OB hDX hK1 (by have h:=h8';simp only[CT,Bm,decide_eq_true_eq]at h;rcases h with h|h;exact .inl (by omega);exact .inr (by omega))
  have hDXq:=hDXs.hq
  refine yE<|zC<|zT<|zV (.m rfl<|.n (xh rfl (DD (by omega) (by omega)))<|.z rfl) rfl fun g33=>CY (E9 2 8 9 10 14 15 16 17 18 rfl)<|zW (.mm rfl<|.n (xq rfl (DD (by omega) (by omega)))<|.z rfl) rfl fun g34=>CY (E9 2 8 9 10 14 15 16 17 18 rfl)<|zW (.m rfl<|.n (xd rfl)<|.nil) rfl fun g35=>CY (I4 2 8 9 10 14 15 16 17 18 120 rfl)<|zC<|zh rfl (fun h9=>?_) (fun h9=>?_)<;>have h9':=h9<;>try simp only[CT,Z]at h9
  ·have hke:k-1=(V*4294967296+L % 4294967296)/Y:=Jq hDX rfl hYd hDXs (by omega) (.inl (by have h:=h9';simp[CT]at h;omega))
   refine D6<|Hl rfl<|zE<|zS<|zW (.m rfl<|.n (Fi (.t rfl) (.k rfl) (DD (by omega) (by omega)))<|.m rfl<|.n (xq rfl (DD (by omega) (by omega)))<|.m rfl<|.n (Fi (.t rfl) (.k rfl) rfl)<|.m rfl<|.n (yK (.t rfl) (.t rfl) rfl)<|.mm rfl<|.n (Fi (.t rfl) (.t rfl) rfl)<|.n (Eb (.t rfl) (.t rfl) (OP hYr.1 hYr.2 hke))<|.m rfl<|.n (GV (.t rfl) (.t rfl) (by omega) (hsh _))<|.a rfl<|.z rfl) rfl fun g36=>CY (E2 6 7 rfl)<|De<|Lt rfl ?_
   have hfin:=Q1 (S:=P) (by omega) (by omega) hY hN (show(T*4294967296+L/4294967296)=(T*4294967296+L/4294967296)/Y*Y+V by rw[hV];exact Lz _ _) (Lz (V*4294967296+L % 4294967296) Y) (Ay _ (by omega)) (AB _ (by omega))
   rw[←hge,←hke]at hfin
   exact D3 (by rw[hfin.1,hfin.2])
  refine yE<|zR<|yW (k-1,q+Y/4294967296) (by exact⟨hDXs,by show q+_<_;omega⟩) (by show(4294967296-(q+Y/4294967296)).toNat<(4294967296-q).toNat;omega) (Es (fun _=>E9 18 16 2 8 9 10 14 15 17 rfl) fun _=>R0)
 have hke:k=(V*4294967296+L % 4294967296)/Y:=Jq hDX rfl hYd hK1 (by have h:=h8';simp[CT]at h;omega) (.inr (by have h:=h8';simp only[CT,AQ,decide_eq_false_iff_not]at h;have h:=h.2;omega))
 refine D6<|zE<|zE<|zS<|zW (.m rfl<|.n (Fi (.t rfl) (.k rfl) (DD (by omega) (by omega)))<|.m rfl<|.n (xq rfl (DD (by omega) (by omega)))<|.m rfl<|.n (Fi (.t rfl) (.k rfl) rfl)<|.m rfl<|.n (yK (.t rfl) (.t rfl) rfl)<|.mm rfl<|.n (Fi (.t rfl) (.t rfl) rfl)<|.n (Eb (.t rfl) (.t rfl) (OP hYr.1 hYr.2 hke))<|.m rfl<|.n (GV (.t rfl) (.t rfl) (by omega) (hsh _))<|.a rfl<|.z rfl) rfl fun g37=>CY (E2 6 7 rfl)<|De<|Lt rfl ?_
 have hfin:=Q1 (S:=P) (by omega) (by omega) hY hN (show(T*4294967296+L/4294967296)=(T*4294967296+L/4294967296)/Y*Y+V by rw[hV];exact Lz _ _) (Lz (V*4294967296+L % 4294967296) Y) (Ay _ (by omega)) (AB _ (by omega))
 rw[←hge,←hke]at hfin
 exact D3 (by rw[hfin.1,hfin.2])
theorem fB{m:List Int}{d:Int}(hm:DJ m)(hlm:m.length≤250000000000)(d0:0<d)(d1:d<18446744073709551616):Ct prog 211 [DP .u64 m,CW (.int .u64 (d))] (EP [DP .u64 (CQ (CS m/d).toNat),CW (.int .u64 (CS m % d))]):=by
 refine Ct.of func211 rfl (by kernel_rfl) rfl fun c0=>ER 0 rfl fun hlen=>zV (.b rfl<|.b rfl<|.nil) rfl fun g1=>CY (E2 0 1 rfl)<|zC<|DS<|zV (.m rfl<|.n (xv Df rfl)<|.w 0 (DI (mk:=Eh .u64) 0 0 Df M5 rfl (fun _=>⟨rfl,rfl⟩) (.t rfl) (.t rfl) (by omega) (by omega) (by omega) (by omega) rfl)<|.n (yX rfl rfl)<|.nil) rfl fun g2=>CZ 0 (E3 0 1 6 rfl) rfl<|zW (.b rfl<|.nil) rfl fun g3=>CZ 0 (E4 0 1 6 7 rfl) rfl<|Dd<|zV (.m rfl<|.n (xv Df rfl)<|.n (xh rfl (wo (by omega)))<|.z rfl) rfl fun g4=>CZ 0 (E5 0 1 6 7 8 rfl) rfl<|zC<|zT<|D4 (α:=Nat×List Int×Int) (fun x=>SE m x.2.1 d x.1 x.2.2) (fun x=>x.1) (fun x restR=>(8,I6 ((x.1:Int) -1))::(7,CW (.int .u64 (x.2.2)))::restR) (fun x restS=>DC (g2 11) (Eh .u64) x.2.1 71::restS) (ρc:=[(0,_),(1,_),(6,_)]) (σc:=[]) (m.length,List.replicate m.length 0,0) (by exact gf d0) (To.pick (fun _=>E5 8 7 0 1 6 rfl) (fun _=> .sub 0 rfl (yQ (by rw[show((m.length:Int)).toNat=m.length by omega]))<|.nil) (ks:=[0]) rfl) (fun x hI=>?_)
 obtain⟨k,l,r⟩:=x
 try simp only at hI
 show J _ _ ((8,I6 ((k:Int) -1))::(7,CW (.int .u64 (r)))::_) (DC (g2 11) (Eh .u64) l 71::_) _ _
 refine zF<|zV (.m rfl<|.n (xd rfl)<|.nil) rfl fun g5=>CZ 0 (E6 0 1 6 7 8 16 rfl) rfl<|zC<|zh rfl (fun h1=>?_) (fun h1=>?_)<;>try simp only[CT,Z]at h1
 ·obtain⟨j,rfl⟩: ∃ j,k=j+1:=⟨k-1,by omega⟩
  have hIk:=hI.hk
  have hIl:=hI.hl
  have hIr:=hI.hr
  have ej:(((j+1:Nat):Int) -1).toNat=j:=by omega
  have gm:0≤(m.getD (((j+1:Nat):Int) -1).toNat 0)∧(m.getD (((j+1:Nat):Int) -1).toNat 0)<18446744073709551616:=by rw[ej];exact hm.at (k:=j) (by omega)
  obtain⟨t,ht⟩: ∃ t,t=r*18446744073709551616+m.getD j 0:=⟨_,rfl⟩
  have htm:r*18446744073709551616+(m.getD (((j+1:Nat):Int) -1).toNat 0)=t:=by rw[ej];exact ht.symm
  have hS:=fZ hm d0 hI ht
  refine yE<|Dd<|zT<|(zG [] (.mm rfl<|.mm rfl<|.m rfl<|.n (xx 0 Df rfl (by omega) (by omega))<|.n (xy Fa rfl)<|.m rfl<|.n (zP (VK hIr.1 hIr.2 gm d1) (A3 rfl))<|.m rfl<|.n (xk rfl)<|.n (xk rfl)<|.r 0 (xz 0 Df rfl (by omega) (by omega))<|.w 0 (xA (mk:=Eh .u64) 0 rfl DY J4 rfl (by omega))<|.z rfl) ff rfl fun g6=>CZ 0 (E5 0 1 6 7 8 rfl) rfl ?_)
  refine zR<|zC<|(zG [] (.m rfl<|.n (xh rfl (wo (by omega)))<|.z rfl) ff rfl fun g7=>CZ 0 (E5 0 1 6 7 8 rfl) rfl ?_)
  exact yW (j,l.set (((j+1:Nat):Int) -1).toNat ((r*18446744073709551616+(m.getD (((j+1:Nat):Int) -1).toNat 0))/d),(r*18446744073709551616+(m.getD (((j+1:Nat):Int) -1).toNat 0)) % d) (by exact(by show SE m (l.set (((j+1:Nat):Int) -1).toNat ((r*18446744073709551616+(m.getD (((j+1:Nat):Int) -1).toNat 0))/d)) d j ((r*18446744073709551616+(m.getD (((j+1:Nat):Int) -1).toNat 0)) % d);rw[htm,ej];exact hS.1)) (by show j<j+1;omega) (Es (fun _=> .sub (t:=8) rfl (yO (by exact congrArg (fun z=>I6 z) (by omega)))<|E4 7 0 1 6 rfl) fun _=>R1 0 rfl)
 obtain rfl:k=0:=by omega
 obtain⟨hq,hr⟩:=fY d0 hI
 have hIr:=hI.hr
 have hdg:=hI.hd
 refine D6<|zE<|zE<|zS<|zC<|yN (To.freeze 0 (fun _ h=>h) rfl Dz rfl)<|zV (.m rfl<|.n (zP (Iy hdg) ⟨(Lk.sub (Ed 0 rfl) (.t rfl)),trivial⟩)<|.m rfl<|.a rfl<|.z rfl) rfl fun g8=>CY (E2 4 5 rfl)<|De<|Lt rfl<|D3 (by rw[←hq,←hr])
theorem jy{u:Value}{us d:List Int}{j N:Nat}(hu:DJ us)(hd:DJ d)(hN:d.length=N+2)(hj:j+d.length<us.length)(hDW:Qv (Dy us j (d.length+1)) (CS d) (Dg N) (us.getD (j+(N+2)) 0*18446744073709551616+us.getD (j+(N+1)) 0) (d.getD (N+1) 0) (d.getD N 0) (us.getD (j+N) 0)):En prog 249 [xI u j (d.length+1),DP .u64 d] (DC u (Eh .u64) us 71) (yh fun g:{g:Int//(Dy us j (d.length+1)/CS d)≤g∧g<18446744073709551616}=>CW (.int .u64 g.1)) (DC u (Eh .u64) us 71):=by
 refine En.of func249 rfl (by kernel_rfl) rfl (FU rfl) fun c0 ob hr0=>ER 1 rfl fun hlen=>?_
 have en0:((d.length:Int)).toNat=N+2:=by omega
 have en1:((d.length:Int) -1).toNat=N+1:=by omega
 have en2:((d.length:Int) -2).toNat=N:=by omega
 have gu0:=hu.at (k:=j+(N+2)) (by omega)
 have gu1:=hu.at (k:=j+(N+1)) (by omega)
 have gu2:=hu.at (k:=j+N) (by omega)
 have gd1:=hd.at (k:=N+1) (by omega)
 have gd2:=hd.at (k:=N) (by omega)
 have hq:=Q0 hDW
 have ht:=hDW.ht
 refine zV (.b rfl<|.nil) rfl fun g1=>CZ 0 (E2 0 1 rfl) rfl<|zW (.m rfl<|.n (xv Df rfl)<|.z rfl) rfl fun g2=>CZ 0 (E3 0 1 5 rfl) rfl<|Dd<|zF (zG [[],[],[0,1],[0,1,2],[],[],[5],[4,5,6],[4,5,6,7],[0,1,2,3,4,5,6,7,8]] (.mm rfl<|.n (EV Df (.t rfl) (.t rfl) (by omega) (by omega))<|.r 0 (DH 0 0 Fa (.t rfl) rfl (by omega))<|.mm rfl<|.n (xh rfl (wo (by omega)))<|.n (xx 0 Df rfl (by omega) (by omega))<|.n (xy Fa rfl)<|.n (xw rfl)<|.nil) (fun _=>Di) rfl fun g3=>CZ 0 (E4 0 1 5 23 rfl) rfl ?_)
 refine zC<|zh rfl (fun h1=>?_) (fun h1=>?_)<;>try simp only[CT,Z]at h1
 ·refine zV (.b rfl<|.nil) rfl fun g4=>CZ 0 (E1 4 rfl) rfl<|De<|zD<|Db 0 hr0 (FU rfl) rfl (.cons (.tmp (.t rfl))<|.nil) (zM (yD zL) ?_)
  exact UM ⟨18446744073709551615,by omega,by omega⟩ zL
 have hlt:us.getD (j+(N+2)) 0<d.getD (N+1) 0:=by have h:=h1;rw[en0,en1]at h;omega
 have tz:=gJ hDW
 have hT0:0≤(us.getD (j+(N+2)) 0*18446744073709551616+us.getD (j+(N+1)) 0):=by omega
 have hTl:=Bb (show 0<d.getD (N+1) 0 by omega) (show(us.getD (j+(N+2)) 0*18446744073709551616+us.getD (j+(N+1)) 0)<18446744073709551616*d.getD (N+1) 0 by omega)
 have r0:=Ay (us.getD (j+(N+2)) 0*18446744073709551616+us.getD (j+(N+1)) 0) (show d.getD (N+1) 0≠0 by omega)
 have r1:=AB (us.getD (j+(N+2)) 0*18446744073709551616+us.getD (j+(N+1)) 0) (show 0<d.getD (N+1) 0 by omega)
 refine yE<|zC<|zF (zG [[],[],[0,1],[0,1,2],[],[],[5],[4,5,6],[4,5,6,7],[],[],[10],[9,10,11],[9,10,11,12],[0,1,2,3,4,5,6,7,8,9,10,11,12,13],[0,1,2,3,4,5,6,7,8,9,10,11,12,13,14],[0,1,2,3,4,5,6,7,8,9,10,11,12,13,14,15],[0,1,2,3,4,5,6,7,8,9,10,11,12,13,14,15],[0,1,2,3,4,5,6,7,8,9,10,11,12,13,14,15,16],[0,1,2,3,4,5,6,7,8,9,10,11,12,13,14,15,16,17,18]] (.mm rfl<|.n (EV Df (.t rfl) (.t rfl) (by omega) (by omega))<|.r 0 (DH 0 0 Fa (.t rfl) rfl (by omega))<|.mm rfl<|.n (xh rfl (wo (by omega)))<|.n (EV Df (.t rfl) (.t rfl) (by omega) (by omega))<|.r 0 (DH 0 0 Fa (.t rfl) rfl (by omega))<|.mm rfl<|.n (xh rfl (wo (by omega)))<|.n (xx 0 Df rfl (by omega) (by omega))<|.n (xy Fa rfl)<|.n (zP (VK (by rw[en0];exact gu0.1) (by rw[en0,en1];exact hlt) (by rw[en1];exact gu1) (by rw[en1];omega)) (A3 rfl))<|.m rfl<|.n (xk rfl)<|.n (xk rfl)<|.a rfl<|.z rfl) (fun _=>Di) rfl fun g5=>CZ 0 (E5 0 1 5 6 7 rfl) rfl ?_)
 refine zC<|zT<|D4 (α:=Int×Int) (fun z=>ZW (us.getD (j+(N+2)) 0*18446744073709551616+us.getD (j+(N+1)) 0) (d.getD (N+1) 0) (d.getD N 0) (us.getD (j+N) 0) (Dy us j (d.length+1)/CS d) z.1 z.2∧z.2<18446744073709551616∧z.1<18446744073709551616) (fun z=>(18446744073709551616-z.2).toNat) (fun z restR=>(6,CW (.int .u64 (z.1)))::(7,CW (.int .u64 (z.2)))::restR) (fun z restS=>DC u (Eh .u64) us 71::restS) (ρc:=[(0,_),(1,_),(5,_)]) (σc:=[]) ((us.getD (j+(N+2)) 0*18446744073709551616+us.getD (j+(N+1)) 0)/(d.getD (N+1) 0),(us.getD (j+(N+2)) 0*18446744073709551616+us.getD (j+(N+1)) 0) % (d.getD (N+1) 0)) (by exact⟨tz,by show(us.getD (j+(N+2)) 0*18446744073709551616+us.getD (j+(N+1)) 0) % _<_;omega,hTl⟩) (Es (fun _=> .sub (t:=6) rfl (yO (by exact congrArg (fun z=>CW (.int .u64 z)) (by rw[en0,en1])))<|.sub (t:=7) rfl (yO (by exact congrArg (fun z=>CW (.int .u64 z)) (by rw[en0,en1])))<|E3 0 1 5 rfl) fun _=>R1 0 rfl) (fun z hJ=>?_)
 obtain⟨g,r⟩:=z
 try simp only at hJ
 show J _ _ ((6,CW (.int .u64 (g)))::(7,CW (.int .u64 (r)))::_) (DC u (Eh .u64) us 71::_) _ _
 obtain⟨hJ1,hJ2,hJ3⟩:=hJ
 have hJq:=hJ1.hq
 have hJr:=hJ1.hr
 have hg0:0≤g:=by omega
 have hgm:=O3 ⟨hg0,hJ3⟩ gd2
 refine zT<|zV (.mm rfl<|.m rfl<|.n (xh rfl (wo (by omega)))<|.n (xx 0 Df rfl (by omega) (by omega))<|.n (xy Fa rfl)<|.n (zP (WD ⟨hg0,hJ3⟩ (by rw[en2];exact gd2)) (A2 rfl))<|.m rfl<|.n (xk rfl)<|.n (xk rfl)<|.a rfl<|.z rfl) rfl fun g6=>CZ 0 (E7 0 1 5 6 7 8 9 rfl) rfl<|Dd<|zV (.mm rfl<|.n (xw rfl)<|.m rfl<|.n (gu rfl (fun hC=>(xB rfl)))<|.n (gu rfl (fun hC=>(xB rfl)))<|.n (gu rfl (fun hC=>(oc rfl (.w rfl hC) (.w rfl hC) rfl)))<|.n (gu rfl (fun hC=>(zA (.w rfl hC))))<|.n (yA rfl rfl (Sl rfl) (fun hC=>(xB rfl)))<|.n (yA rfl rfl (Sl rfl) (fun hC=>(xB rfl)))<|.n (yA rfl rfl (Sl rfl) (fun hC=>(xB rfl)))<|.n (yA rfl rfl (Sl rfl) (fun hC=>(Eb (.w rfl hC) (.k rfl) (wo (by omega)))))<|.n (yA rfl rfl (Sl rfl) (fun hC=>(EV Df (.w rfl hC) (.w rfl hC) (by omega) (by omega))))<|.r 0 (yA rfl rfl (Sl rfl) (fun hC=>(DH 0 0 Fa (.w rfl hC) rfl (by omega))))<|.n (yA rfl rfl (Sl rfl) (fun hC=>(oc rfl (.w rfl hC) (.w rfl hC) rfl)))<|.n (gu rfl (fun hC=>(EO (.w rfl hC) (fun h2=>(.w rfl ⟨hC,h2⟩)))))<|.n (Fk (.t rfl) (fun h2=>(.w rfl h2)))<|.nil) rfl fun g7=>CZ 0 (E6 0 1 5 6 7 68 rfl) rfl<|zC<|zh rfl (fun h2=>?_) (fun h2=>?_)<;>have h2':=h2<;>try simp only[CT,Z]at h2
 ·refine zV (.m rfl<|.z rfl) rfl fun g8=>CZ 0 (E1 4 rfl) rfl<|De<|zD<|yP<|zD<|yP<|Db 0 hr0 (FU rfl) rfl (.cons (.tmp (.t rfl))<|.nil) (zM (yD zL) ?_)
  exact UM ⟨g,hJq,hJ3⟩ zL
 have hgt:r*18446744073709551616+us.getD (j+N) 0<g*d.getD N 0:=by have h:=h2';rw[en2]at h;exact vt gu2 h
 have hTs:=gI hDW hJ1 (.inr hgt)
 have hTq:=hTs.hq
 have hg1:=pZ hgt hJr gu2.1 hg0
 refine yE<|zW (.m rfl<|.n (xh rfl (DD (by omega) (by omega)))<|.z rfl) rfl fun g9=>CZ 0 (E5 0 1 5 6 7 rfl) rfl<|zW (.mm rfl<|.m rfl<|.n (xh rfl (wo (by omega)))<|.n (xx 0 Df rfl (by omega) (by omega))<|.n (xy Fa rfl)<|.n (Ky cZ (.t rfl) (.t rfl) (.k rfl) hJr (by rw[en1];exact gd1.1) (by omega))<|.m rfl<|.n (xk rfl)<|.n (xk rfl)<|.a rfl<|.z rfl) rfl fun g10=>CZ 0 (E6 0 1 5 6 10 11 rfl) rfl<|Dd<|zV (.m rfl<|.n (xd rfl)<|.nil) rfl fun g11=>CZ 0 (E6 0 1 5 6 10 83 rfl) rfl<|zC<|zh rfl (fun h3=>?_) (fun h3=>?_)<;>try simp only[CT,Z]at h3
 ·refine zV (.m rfl<|.z rfl) rfl fun g12=>CZ 0 (E1 4 rfl) rfl<|De<|zD<|yP<|zD<|yP<|Db 0 hr0 (FU rfl) rfl (.cons (.tmp (.t rfl))<|.nil) (zM (yD zL) ?_)
  exact UM ⟨g-1,hTq,by omega⟩ zL
 have hca:r+d.getD (N+1) 0<18446744073709551616:=by have h:=h3;rw[en1]at h;unfold Kl at h;omega
 refine yE<|zC<|(zG [] (.m rfl<|.z rfl) ff rfl fun g13=>CZ 0 (E5 0 1 5 6 7 rfl) rfl ?_)
 refine zR<|yW (g-1,r+(d.getD (N+1) 0)) (by exact⟨hTs,by show r+_<_;omega,by show g-1<_;omega⟩) (by show(18446744073709551616-(r+(d.getD (N+1) 0))).toNat<(18446744073709551616-r).toNat;omega) (Es (fun _=>F1 6 rfl<|.sub (t:=7) rfl (yO (by exact congrArg (fun z=>CW (.int .u64 z)) (by rw[en1];unfold Lv;omega)))<|E3 0 1 5 rfl) fun _=>R1 0 rfl)
theorem sj{u:Value}{us d:List Int}{j N:Nat}(hu:DJ us)(hd:DJ d)(hN:d.length=N+2)(hj:j+d.length<us.length)(h9:us.length≤750000000000)(hDW:Qv (Dy us j (d.length+1)) (CS d) (Dg N) (us.getD (j+(N+2)) 0*18446744073709551616+us.getD (j+(N+1)) 0) (d.getD (N+1) 0) (d.getD N 0) (us.getD (j+N) 0)):En prog 213 [xI u j (d.length+1),DP .u64 d] (DC u (Eh .u64) us 71) (CW (.int .u64 ((Dy us j (d.length+1)/CS d)))) (DC u (Eh .u64) (H8 us j (d.length+1) (Dy us j (d.length+1) % CS d)) 71):=by
 refine En.of func213 rfl (by kernel_rfl) rfl (FU (Mr (by omega)).symm) fun c0 ob hr0=>ER 1 rfl fun hlen=>?_
 have hq:=Q0 hDW
 have hD0:=PZ hDW
 refine zV (.b rfl<|.nil) rfl fun g1=>CZ 0 (E2 0 1 rfl) rfl<|zW (.m rfl<|.n (xv Df rfl)<|.z rfl) rfl fun g2=>CZ 0 (E3 0 1 5 rfl) rfl<|zW (.mm rfl<|.w 0 (CV 0 (jy hu hd hN hj hDW) (A2 rfl) rfl)<|.z rfl) rfl fun g3=>CZ 0 (E4 0 1 5 6 rfl) rfl<|zC<|xL 6 rfl fun g=>?_
 obtain⟨g,hg0,hg1⟩:=g
 show J _ _ ((6,CW (.int .u64 g))::_) _ _ _
 have hg00:0≤g:=by omega
 refine zV (.b rfl<|.b rfl<|.nil) rfl fun g4=>CZ 0 (E6 0 1 5 6 7 8 rfl) rfl<|Dd<|zV (.m rfl<|.n (zA (.k rfl))<|.nil) rfl fun g5=>CZ 0 (E8 0 1 5 6 7 8 17 18 rfl) rfl<|zC<|zT<|D4 (α:=Nat×List Int×Int×Int) (fun x=>Vg us d x.2.1 j g x.1 x.2.2.1 x.2.2.2) (fun x=>d.length-x.1) (fun x restR=>(18,I6 (x.1:Int))::(7,CW (.int .u64 (x.2.2.1)))::(8,CW (.int .u64 (x.2.2.2)))::restR) (fun x restS=>DC u (Eh .u64) x.2.1 71::restS) (ρc:=[(0,_),(1,_),(5,_),(6,_),(17,_)]) (σc:=[]) (0,us,0,0) (by exact dZ hu) (Es (fun _=>E8 18 7 8 0 1 5 6 17 rfl) fun _=>R1 0 rfl) (fun x hI=>?_)
 obtain⟨k,l,c,b⟩:=x
 try simp only at hI
 show J _ _ ((18,I6 (k:Int))::(7,CW (.int .u64 (c)))::(8,CW (.int .u64 (b)))::_) (DC u (Eh .u64) l 71::_) _ _
 refine zV (.n (xw rfl)<|.nil) rfl fun g6=>CZ 0 (E9 0 1 5 6 7 8 17 18 19 rfl) rfl<|Dd<|zh rfl (fun h1=>?_) (fun h1=>?_)<;>try simp only[CT,Z]at h1
 ·have hIi:=hI.hi
  have hIl:=hI.hl
  have hIc:=hI.hc
  have hIb2:=hI.hb
  have hIb:0≤b∧b≤1:=by omega
  have gd:0≤(d.getD ((k:Nat):Int).toNat 0)∧(d.getD ((k:Nat):Int).toNat 0)<18446744073709551616:=hd.at (k:=k) (by omega)
  have gl:0≤(l.getD (j+((k:Nat):Int).toNat) 0)∧(l.getD (j+((k:Nat):Int).toNat) 0)<18446744073709551616:=hI.hd.at (k:=j+k) (by omega)
  obtain⟨p,hp⟩: ∃ p,p=g*d.getD k 0+0+c:=⟨_,rfl⟩
  obtain⟨s1,s2,s3,s4⟩:=XE gl (show 0≤p % 18446744073709551616∧p % 18446744073709551616<18446744073709551616 by omega) hIb
  refine yE<|Dd<|zT<|zV (.m rfl<|.z rfl) rfl fun g7=>CZ 0 (E9 0 1 5 6 7 8 9 17 18 rfl) rfl<|zW (.b rfl<|.nil) rfl fun g8=>CZ 0 (E9 0 1 5 6 7 8 9 17 18 rfl) rfl<|zW (.mm rfl<|.m rfl<|.n (xx 0 Df rfl (by omega) (by omega))<|.n (xy Fa rfl)<|.m rfl<|.n (zP (U8 ⟨hg00,hg1⟩ gd (by omega) hIc) ⟨(.t rfl),(.t rfl),(.k rfl),(.t rfl),trivial⟩)<|.m rfl<|.n (xk rfl)<|.n (xk rfl)<|.a rfl<|.z rfl) rfl fun g9=>CZ 0 (I4 0 1 5 6 7 8 9 10 17 18 rfl) rfl<|zC<|(zG [] (.mm rfl<|.mm rfl<|.n (EV Df (.t rfl) (.t rfl) (by omega) (by omega))<|.r 0 (DH 0 0 Fa (.t rfl) rfl (by omega))<|.mm rfl<|.n (RI wD (.t rfl) (.t rfl) (.t rfl) gl ⟨by omega,by omega⟩ hIb)<|.m rfl<|.n (xk rfl)<|.n (xk rfl)<|.n (EV Df (.t rfl) (.t rfl) (by omega) (by omega))<|.w 0 (xA (mk:=Eh .u64) 0 rfl DY J4 rfl (by omega))<|.z rfl) ff rfl fun g10=>CZ 0 (E8 0 1 5 6 7 8 17 18 rfl) rfl ?_)
  refine zR<|zC<|(zG [] (.n (xo rfl (wo (by omega)))<|.m rfl<|.nil) ff rfl fun g11=>CZ 0 (E8 0 1 5 6 7 8 17 18 rfl) rfl ?_)
  exact yW (k+1,l.set (j+k) (Pi (l.getD (j+k) 0) ((g*d.getD k 0+0+c) % 18446744073709551616) b),(g*d.getD k 0+0+c)/18446744073709551616,Ph (l.getD (j+k) 0) ((g*d.getD k 0+0+c) % 18446744073709551616) b) (by exact dY hd ⟨hg00,by omega⟩ hI (by omega) hj (p:=g*d.getD k 0+0+c) (y:=(g*d.getD k 0+0+c) % 18446744073709551616+b) (by rw[Ba]) rfl (by rw[←hp];exact s3) (by rw[←hp];have s5:Pi (l.getD (j+k) 0) (p % 18446744073709551616) b=l.getD (j+k) 0-(b+p % 18446744073709551616)+18446744073709551616*Ph (l.getD (j+k) 0) (p % 18446744073709551616) b:=s4;rw[s5,BU b]) (by rw[←hp];exact⟨s1,s2⟩)) (by show d.length-(_+1)<_;omega) (Es (fun _=>E8 18 7 8 0 1 5 6 17 rfl) fun _=>R1 0 rfl)
 have hIi:=hI.hi
 obtain rfl:k=d.length:=by omega
 have hIl:=hI.hl
 have hIc:=hI.hc
 have hIb2:=hI.hb
 have hIb:0≤b∧b≤1:=by omega
 have gl:0≤(l.getD (j+((d.length:Nat):Int).toNat) 0)∧(l.getD (j+((d.length:Nat):Int).toNat) 0)<18446744073709551616:=hI.hd.at (k:=j+d.length) (by omega)
 obtain⟨hdl,hds⟩:=dX hu hI hj (x:=l.getD (j+d.length) 0) (y:=c+b) rfl rfl
 have hsd:=nM gl hIc hIb
 have hsc:=sl (b:=b) hds
 refine D6<|zE<|zE<|zS<|zW (.mm rfl<|.mm rfl<|.n (EV Df (.t rfl) (.t rfl) (by omega) (by omega))<|.r 0 (DH 0 0 Fa (.t rfl) rfl (by omega))<|.mm rfl<|.n (RI wD (.t rfl) (.t rfl) (.t rfl) gl hIc hIb)<|.m rfl<|.n (xk rfl)<|.n (xk rfl)<|.n (EV Df (.t rfl) (.t rfl) (by omega) (by omega))<|.w 0 (xA (mk:=Eh .u64) 0 rfl DY J4 rfl (by omega))<|.z rfl) rfl fun g12=>CZ 0 (E5 0 1 5 6 8 rfl) rfl<|Dd<|zT<|D4 (α:=Int) (fun y=>(Dy us j (d.length+1)/CS d)≤y∧y<18446744073709551616) (fun y=>y.toNat) (fun y restR=>(6,CW (.int .u64 (y)))::(8,CW (.int .u64 (if Gc us d j y<0 then 1 else 0)))::restR) (fun y restS=>DC u (Eh .u64) (I9 us d j y) 71::restS) (ρc:=[(0,_),(1,_),(5,_)]) (σc:=[]) g (by exact⟨hg0,hg1⟩) (To.pick (fun _=>F1 6 rfl<|.sub (t:=8) rfl (yO (by exact congrArg (fun z=>CW (.int .u64 z)) hsc))<|E3 0 1 5 rfl) (fun _=> .sub 0 rfl (yQ (by rw[←hdl,hsd];rfl))<|.nil) (ks:=[0]) rfl) (fun y hY=>?_)
 refine zF<|zV (.m rfl<|.n (xd rfl)<|.nil) rfl fun g13=>CZ 0 (E6 0 1 5 6 8 59 rfl) rfl<|zC<|zh rfl (fun h2=>?_) (fun h2=>?_)<;>try simp only[CT,Z]at h2
 ·have hneg:Gc us d j y<0:=Aj fun h9=>by have h:=h2;rw[if_neg h9]at h;exact h rfl
  have hyq:=qt hD0 hneg
  have hmb:=kS hu hd hj ⟨by omega,hY.2⟩ hneg
  have hld:DJ (I9 us d j y):=Td hu _ _ _
  have hll:(I9 us d j y).length=us.length:=Mr (by omega)
  refine yE<|zC<|zT<|zV (.b rfl<|.nil) rfl fun g14=>CZ 0 (E6 0 1 5 6 7 8 rfl) rfl<|Dd<|zV (.m rfl<|.n (zA (.k rfl))<|.nil) rfl fun g15=>CZ 0 (E8 0 1 5 6 7 8 60 61 rfl) rfl<|zC<|zT<|D4 (α:=Nat×List Int×Int) (fun x=>SB (I9 us d j y) d x.2.1 j x.1 x.2.2) (fun x=>d.length-x.1) (fun x restR=>(61,I6 (x.1:Int))::(7,CW (.int .u64 (x.2.2)))::restR) (fun x restS=>DC u (Eh .u64) x.2.1 71::restS) (ρc:=[(0,_),(1,_),(5,_),(6,_),(8,_),(60,_)]) (σc:=[]) (0,I9 us d j y,0) (by exact eG hld) (Es (fun _=>E8 61 7 0 1 5 6 8 60 rfl) fun _=>R1 0 rfl) (fun x hM=>?_)
  obtain⟨i,l,c⟩:=x
  try simp only at hM
  show J _ _ ((61,I6 (i:Int))::(7,CW (.int .u64 (c)))::_) (DC u (Eh .u64) l 71::_) _ _
  refine zV (.n (xw rfl)<|.nil) rfl fun g16=>CZ 0 (E9 0 1 5 6 7 8 60 61 62 rfl) rfl<|Dd<|zh rfl (fun h3=>?_) (fun h3=>?_)<;>try simp only[CT,Z]at h3
  ·have hMi:=hM.hi
   have hMl:=hM.hl
   have hMc:=hM.hc
   have gd:0≤(d.getD ((i:Nat):Int).toNat 0)∧(d.getD ((i:Nat):Int).toNat 0)<18446744073709551616:=hd.at (k:=i) (by omega)
   have gl:0≤(l.getD (j+((i:Nat):Int).toNat) 0)∧(l.getD (j+((i:Nat):Int).toNat) 0)<18446744073709551616:=hM.hd.at (k:=j+i) (by omega)
   refine yE<|Dd<|zT<|zV (.m rfl<|.z rfl) rfl fun g17=>CZ 0 (E9 0 1 5 6 7 8 11 60 61 rfl) rfl<|zC<|(zG [[],[],[],[],[2,3],[2,3,4],[],[],[6,7],[6,7,8],[],[2,3,4,5,6,7,8,9,10],[2,3,4,5,6,7,8,9,10,11],[2,3,4,5,6,7,8,9,10,11,12],[2,3,4,5,6,7,8,9,10,11,12],[0,1,2,3,4,5,6,7,8,9,10,11,12,13],[0,1,2,3,4,5,6,7,8,9,10,11,12,13,15],[0,1,2,3,4,5,6,7,8,9,10,11,12,13,14,15,16]] (.mm rfl<|.mm rfl<|.n (EV Df (.t rfl) (.t rfl) (by omega) (by omega))<|.r 0 (DH 0 0 Fa (.t rfl) rfl (by omega))<|.mm rfl<|.n (xx 0 Df rfl (by omega) (by omega))<|.n (xy Fa rfl)<|.m rfl<|.n (Ky cZ (.t rfl) (.t rfl) (.t rfl) gl.1 gd.1 hMc)<|.m rfl<|.n (xk rfl)<|.n (xk rfl)<|.n (EV Df (.t rfl) (.t rfl) (by omega) (by omega))<|.w 0 (xA (mk:=Eh .u64) 0 rfl DY J4 rfl (by omega))<|.z rfl) (fun _=>Di) rfl fun g18=>CZ 0 (E8 0 1 5 6 7 8 60 61 rfl) rfl ?_)
   refine zR<|zC<|(zG [] (.n (xo rfl (wo (by omega)))<|.m rfl<|.nil) ff rfl fun g19=>CZ 0 (E8 0 1 5 6 7 8 60 61 rfl) rfl ?_)
   exact yW (i+1,l.set (j+i) ((l.getD (j+i) 0+d.getD i 0+c) % 18446744073709551616),(l.getD (j+i) 0+d.getD i 0+c)/18446744073709551616) (by exact eC hd hM (by omega) (by omega) rfl) (by show d.length-(_+1)<_;omega) (Es (fun _=>E8 61 7 0 1 5 6 8 60 rfl) fun _=>R1 0 rfl)
  have hMi:=hM.hi
  obtain rfl:i=d.length:=by omega
  have hMl:=hM.hl
  have hMc:=hM.hc
  have gl:0≤(l.getD (j+((d.length:Nat):Int).toNat) 0)∧(l.getD (j+((d.length:Nat):Int).toNat) 0)<18446744073709551616:=hM.hd.at (k:=j+d.length) (by omega)
  have hmd:=eB hld hM (by omega)
  have hca:Kl (l.getD (j+((d.length:Int)).toNat) 0) 0 c=(Dy (I9 us d j y) j (d.length+1)+CS d)/Dg (d.length+1):=by rw[←eA hld hM (by omega)];unfold Kl;rw[Ba];rfl
  refine D6<|zE<|zE<|zS<|zW (.mm rfl<|.mm rfl<|.n (EV Df (.t rfl) (.t rfl) (by omega) (by omega))<|.r 0 (DH 0 0 Fa (.t rfl) rfl (by omega))<|.m rfl<|.n (Ky cZ (.t rfl) (.k rfl) (.t rfl) gl.1 (by omega) hMc)<|.m rfl<|.n (xk rfl)<|.n (xk rfl)<|.n (EV Df (.t rfl) (.t rfl) (by omega) (by omega))<|.w 0 (xA (mk:=Eh .u64) 0 rfl DY J4 rfl (by omega))<|.z rfl) rfl fun g20=>CZ 0 (E6 0 1 5 6 7 8 rfl) rfl<|zC ?_
  have hbo:IntKind.u64.wrap ((if Gc us d j y<0 then 1 else 0) -Kl (l.getD (j+((d.length:Int)).toNat) 0) 0 c)=if Gc us d j (y-1)<0 then 1 else 0:=by rw[hca,hmb.2,if_pos hneg];split<;>rfl
  refine zV (.mm rfl<|.n (Eb (.t rfl) (.t rfl) hbo)<|.z rfl) rfl fun g21=>CZ 0 (E5 0 1 5 6 8 rfl) rfl<|zC<|(zG [] (.m rfl<|.n (xh rfl (DD (by omega) (by omega)))<|.z rfl) ff rfl fun g22=>CZ 0 (E5 0 1 5 6 8 rfl) rfl ?_)
  refine zR<|yW (y-1) (by exact⟨by omega,by omega⟩) (by omega) (To.pick (fun _=>E5 6 8 0 1 5 rfl) (fun _=> .sub 0 rfl (yQ (by rw[←hmb.1,←hmd];unfold Lv;rw[Ba];rfl))<|.nil) (ks:=[0]) rfl)
 obtain⟨hye,hyl⟩:=kg (u:=us) (d:=d) (j:=j) (g:=y) hD0 hY.1 (fun h9=>by have h:=h2;rw[if_pos h9]at h;exact absurd h (by decide))
 refine D6<|zE<|zE<|zS<|zW (.m rfl<|.z rfl) rfl fun g23=>CZ 0 (E1 4 rfl) rfl<|De<|D5 (To.res 0 (r':=DC u (Eh .u64) (H8 us j (d.length+1) (Dy us j (d.length+1) % CS d)) 71) rfl (yQ (by rw[hyl])) rfl)<|Db 0 hr0 (FU (Mr (by omega)).symm) rfl (.cons (.tmp (.t rfl))<|.nil) (zM (yD zL) ?_)
 exact D3 (by rw[hye])
theorem l5{u:Value}{l:List Int}(hd:DJ l)(hl9:l.length≤750000000000):En prog 165 [CW u] (DC u (Eh .u64) l 71) (CW (J0 u (CQ (CS l).toNat).length)) (DC (J0 u (CQ (CS l).toNat).length) (Eh .u64) (CQ (CS l).toNat) 71):=by
 refine En.of func165 rfl (by kernel_rfl) rfl (Q8) fun c0 ob hr0=>zV (.b rfl<|.nil) rfl fun g1=>CZ 0 (E1 0 rfl) rfl<|zW (.m rfl<|.r 0 (EZ 0 Df (.t rfl) rfl)<|.z rfl) rfl fun g2=>CZ 0 (E2 0 3 rfl) rfl<|Dd<|zT<|D4 (α:=Nat) (fun k=>k≤l.length∧CS (l.take k)=CS l) (fun k=>k) (fun k restR=>(3,I6 (k:Int))::restR) (fun k restS=>DC u (Eh .u64) l 71::restS) (ρc:=[(0,_)]) (σc:=[]) l.length (by exact⟨A5 _,by rw[AI]⟩) (Es (fun _=>E2 3 0 rfl) fun _=>R1 0 rfl) (fun k hI=>?_)
 obtain⟨hk,hm⟩:=hI
 refine zF<|zV (.m rfl<|.n (xd rfl)<|.m rfl<|.n (gu rfl (fun hC=>(xB rfl)))<|.n (gu rfl (fun hC=>(xB rfl)))<|.n (gu rfl (fun hC=>(Eb (.w rfl hC) (.k rfl) (wo (by omega)))))<|.r 0 (gu rfl (fun hC=>(yH 0 Df (.w rfl hC) (.w rfl hC) rfl (by simp only[CT,Ao,decide_eq_true_eq,beq_iff_eq]at hC;omega) (by simp only[CT,Ao,decide_eq_true_eq,beq_iff_eq]at hC;omega))))<|.r 0 (gu rfl (fun hC=>(DH 0 0 Fa (.w rfl hC) rfl (by simp only[CT,Ao,decide_eq_true_eq,beq_iff_eq]at hC;omega))))<|.n (gu rfl (fun hC=>(oc rfl (.w rfl hC) (.k rfl) rfl)))<|.n (EO (.t rfl) (fun h2=>(.w rfl h2)))<|.nil) rfl fun g3=>CZ 0 (E3 0 3 15 rfl) rfl<|zC<|zh rfl (fun h1=>?_) (fun h1=>?_)<;>try simp only[CT,Z]at h1
 ·have ek:(((k:Nat):Int) -1).toNat=k-1:=by omega
  have hz:l.getD (k-1) 0=0:=by rw[←ek];exact h1.2
  have hk0:0<k:=by have:=h1.1;omega
  refine yE<|zC<|zT<|(zG [] (.m rfl<|.n (xh rfl (wo (by omega)))<|.z rfl) ff rfl fun g4=>CZ 0 (E2 0 3 rfl) rfl ?_)
  refine zR<|yW (k-1) (by exact⟨by omega,RC hk hk0 hz hm⟩) (by omega) (Es (fun _=> .sub (t:=3) rfl (yO (by exact congrArg (fun z=>I6 z) (by omega)))<|E1 0 rfl) fun _=>R1 0 rfl)
 have ek:(((k:Nat):Int) -1).toNat=k-1:=by omega
 have hcd:=SO hd hk hm (by have h9:=h1;rw[ek]at h9;rcases h9 with h9|h9;exact .inl (by omega);exact .inr h9)
 have hkl:k=(CQ (CS l).toNat).length:=by rw[←hcd,A9];omega
 refine D6<|zE<|zE<|zS<|zW (.mm rfl<|.r 0 (Ke 0 Df (.t rfl) (.t rfl) rfl (by omega) (by omega))<|.z rfl) rfl fun g5=>CZ 0 (E1 2 rfl) rfl<|De<|D5 (To.res 0 (r':=DC (J0 u (CQ (CS l).toNat).length) (Eh .u64) (CQ (CS l).toNat) 71) rfl (by rw[←hkl,←hcd];exact US hk) rfl)<|Db 0 hr0 (Q8) rfl (.cons (.tmp (.t rfl))<|.nil) (zM (yD zL) ?_)
 exact D3 (by rw[←hkl];rfl)
theorem fw{m:List Int}{n:Nat}(hm:DJ m)(hlm:m.length≤250000000000)(hn:n≤8000000000000):OH prog 124 [DP .u64 m,CW (.int .u64 (n:Int))] (id) (fun u=>CW u) (fun u=>DC u (Eh .u64) (CQ (CS m*2^n).toNat) 71):=by
 refine OH.of func124 rfl (by kernel_rfl) rfl fun c0=>ER 0 rfl fun hlen=>?_
 have hs64:n % 64<64:=Ap _ (by omega)
 obtain⟨hp1,hp2,hp3,hp4⟩:=HQ hs64
 refine zV (.b rfl<|.nil) rfl fun g1=>CY (E2 0 1 rfl)<|Dd<|zV (.m rfl<|.n (xv Df rfl)<|.n (xd rfl)<|.nil) rfl fun g2=>CY (E3 0 1 12 rfl)<|zC<|zh rfl (fun h1=>?_) (fun h1=>?_)<;>try simp only[CT,Z]at h1
 ·refine zV (.b rfl<|.nil) rfl fun g3=>CY (E1 4 rfl)<|De<|zD ?_
  have hm0:m=[]:=BC.1 (by omega)
  refine D5 (To.emps 1)<|D5 (To.res 0 (r':=DC (.slice none 0 0) (Eh .u64) (CQ (CS m*2^n).toNat) 71) rfl (by rw[hm0,show(CS []*2^n).toNat=0 by simp[CS],DZ];exact FA) rfl)<|HD (u:=(.slice none 0 0)) 0 rfl rfl (.tmp (.t rfl)) (fun _ _ h=>h.1)<|zL
 refine yE<|zW (.m rfl<|.n (Gq (.t rfl) (.k rfl) (by omega) (rA n (by omega)))<|.n (xg I8 KL rfl (wo (by omega)))<|.m rfl<|.n (Gr (.t rfl) (.k rfl) (by omega) (wg n))<|.a rfl<|.z rfl) rfl fun g4=>CY (E3 0 5 6 rfl)<|zC<|DS<|zV (.mm rfl<|.n (xv Df rfl)<|.n (xq rfl (wo (by omega)))<|.n (xo rfl (wo (by omega)))<|.w 0 (DI (mk:=Eh .u64) 0 0 Df M5 rfl (fun _=>⟨rfl,rfl⟩) (.t rfl) (.t rfl) (by omega) (by omega) (by omega) (by omega) rfl)<|.n (yX rfl rfl)<|.nil) rfl fun g5=>CZ 0 (E4 0 5 6 7 rfl) rfl<|Dd<|zV (.m rfl<|.n (xv Df rfl)<|.n (zA (.k rfl))<|.nil) rfl fun g6=>CZ 0 (E6 5 6 7 24 25 26 rfl) rfl<|zC<|zT<|D4 (α:=Nat×List Int) (fun x=>QA m x.2 (n/64) (2^(n % 64)) x.1) (fun x=>m.length-x.1) (fun x restR=>(26,I6 (x.1:Int))::restR) (fun x restS=>DC (g5 23) (Eh .u64) x.2 71::restS) (ρc:=[(5,_),(6,_),(7,_),(24,_),(25,_)]) (σc:=[]) (0,List.replicate (n/64+m.length+1) 0) (by exact T3 rfl hp1) (To.pick (fun _=>E6 26 5 6 7 24 25 rfl) (fun _=> .sub 0 rfl (yQ (by rw[show(((n/64:Nat):Int)+(m.length:Int)+1).toNat=n/64+m.length+1 by omega]))<|.nil) (ks:=[0]) rfl) (fun x hI=>?_)
 obtain⟨i,l⟩:=x
 try simp only at hI
 show J _ _ ((26,I6 (i:Int))::_) (DC (g5 23) (Eh .u64) l 71::_) _ _
 refine zV (.n (xw rfl)<|.nil) rfl fun g7=>CZ 0 (E7 5 6 7 24 25 26 27 rfl) rfl<|Dd<|zh rfl (fun h2=>?_) (fun h2=>?_)<;>try simp only[CT,Z]at h2
 ·have hIi:=hI.hi
  have hIl:=hI.hl
  have gm:0≤m.getD ((i:Nat):Int).toNat 0∧m.getD ((i:Nat):Int).toNat 0<18446744073709551616:=hm.at (k:=i) (by omega)
  obtain⟨x,hx⟩: ∃ x,x=m.getD i 0:=⟨_,rfl⟩
  obtain⟨t,ht⟩: ∃ t,t=x*2^(n % 64):=⟨_,rfl⟩
  have hx9:m.getD ((i:Nat):Int).toNat 0=x:=hx.symm
  have gx:0≤x∧x<18446744073709551616:=by rw[←hx9];exact gm
  have hsh:IntKind.u64.wrap (m.getD ((i:Nat):Int).toNat 0*2^min ((n % 64:Nat):Int).toNat IntKind.u64.bits)=t % 18446744073709551616:=by rw[hx9,fX hs64,ht]
  have hor:Ej .or .u64 (l.getD (((n/64:Nat):Int)+(i:Int)).toNat 0) (t % 18446744073709551616)=l.getD (n/64+i) 0+t % 18446744073709551616:=b7 hs64 hm hI (show i<m.length by omega) hx ht
  have hup:(m.getD ((i:Nat):Int).toNat 0).fdiv (2^min ((64-n % 64:Nat):Int).toNat IntKind.u64.bits)=t/18446744073709551616:=by rw[hx9,gg (by omega),nj gx hs64,ht]
  refine yE<|Dd<|zT<|zV (.m rfl<|.n (xx 0 Df rfl (by omega) (by omega))<|.n (xy Fa rfl)<|.a rfl<|.z rfl) rfl fun g8=>CZ 0 (E8 5 6 7 8 9 24 25 26 rfl) rfl<|zW (.mm rfl<|.m rfl<|.n (xq rfl (wo (by omega)))<|.r 0 (xz 0 Df rfl (by omega) (by omega))<|.r 0 (DH 0 0 Fa (.t rfl) rfl (by omega))<|.mm rfl<|.n (GD (.t rfl) (.t rfl) (by omega) hsh)<|.n (Ep (by simp) (.t rfl) (.t rfl) hor)<|.r 0 (xz 0 Df rfl (by omega) (by omega))<|.w 0 (xA (mk:=Eh .u64) 0 rfl DY J4 rfl (by omega))<|.nil) rfl fun g9=>CZ 0 (E8 5 6 7 8 9 24 25 26 rfl) rfl<|zC<|(zG [] (.mm rfl<|.m rfl<|.n (xq rfl (wo (by omega)))<|.n (xo rfl (wo (by omega)))<|.mm rfl<|.n (Eb (.k rfl) (.t rfl) (XD hs64))<|.n (GV (.t rfl) (.t rfl) (by omega) hup)<|.r 0 (xz 0 Df rfl (by omega) (by rw[Aa];omega))<|.w 0 (xA (mk:=Eh .u64) 0 rfl DY J4 rfl (by rw[Aa];omega))<|.nil) ff rfl fun g10=>CZ 0 (E6 5 6 7 24 25 26 rfl) rfl ?_)
  refine zR<|zC<|(zG [] (.n (xo rfl (wo (by omega)))<|.m rfl<|.nil) ff rfl fun g11=>CZ 0 (E6 5 6 7 24 25 26 rfl) rfl ?_)
  exact yW (i+1,(l.set (n/64+i) (l.getD (n/64+i) 0+t % 18446744073709551616)).set (n/64+i+1) (t/18446744073709551616)) (by exact T2 hm hI (by omega) hp1 hp2 hp3 hx ht) (by show m.length-(_+1)<_;omega) (Es (fun _=>E6 26 5 6 7 24 25 rfl) fun _=>R1 0 rfl)
 have hIl:=hI.hl
 have hIi2:=hI.hi
 obtain⟨hdg,hmg⟩:=T1 hI (show i=m.length by have:=hI.hi;omega)
 rw[Wf]at hmg
 refine D6<|zE<|zE<|zS<|zW (.m rfl<|.w 0 (CV 0 (l5 hdg (by omega)) (A1 rfl) rfl)<|.z rfl) rfl fun g12=>CZ 0 (E1 4 rfl) rfl<|De<|D5 (To.res 0 (r':=DC (J0 (g5 23) (CQ (CS l).toNat).length) (Eh .u64) (CQ (CS m*2^n).toNat) 71) rfl (yQ (by rw[hmg])) rfl)<|HD (u:=(J0 (g5 23) (CQ (CS l).toNat).length)) 0 rfl rfl (.tmp (.t rfl)) (fun _ _ h=>h.1)<|zL
theorem Of{X Y:Nat}(hX:(CQ X).length≤100000000000)(hY:(CQ Y).length≤100000000000)(hY0:0<Y):Ct prog 168 [DP .u64 (CQ X),DP .u64 (CQ Y)] (EP [DP .u64 (CQ (X/Y)),DP .u64 (CQ (X % Y))]):=by
 refine Ct.of func168 rfl (by kernel_rfl) rfl fun c0=>ER 0 rfl fun hlen=>ER 1 rfl fun hlen2=>?_
 have hYl:=F2 (n:=Y)
 have hdX:=D9 X
 have hdY:=D9 Y
 have hmX:=Do X
 have hmY:=Do Y
 refine zV (.b rfl<|.b rfl<|.nil) rfl fun g1=>CY (E2 0 1 rfl)<|Dd<|zV (.mm rfl<|.n (zP (Qh) (A2 rfl))<|.n (xd rfl)<|.nil) rfl fun g2=>CY (E3 0 1 19 rfl)<|zC<|zh rfl (fun h1=>?_) (fun h1=>?_)<;>have h1':=h1<;>try simp only[CT,Z]at h1
 ·have hlt:X<Y:=IA h1'
  refine zV (.m rfl<|.n (zP (ID (by omega)) (A1 rfl))<|.b rfl<|.z rfl) rfl fun g3=>CY (E2 4 5 rfl)<|De<|zD<|zQ (.cons (.tmp (.t rfl))<|.cons (.tmp (.t rfl))<|.nil) (zM (Dk (.cons (Dr (mk:=Eh .u64))<|.cons zL<|.nil)) ?_)
  exact D3 (by rw[Cn hlt,BH hlt,DZ])
 have hge: ¬X<Y:=Iz h1'
 have hXY:=fm hge
 have hX0:0<X:=by omega
 refine yE<|Dd<|zV (.m rfl<|.n (xv Df rfl)<|.n (xd rfl)<|.nil) rfl fun g4=>CY (E3 0 1 24 rfl)<|zC<|zh rfl (fun h2=>?_) (fun h2=>?_)<;>try simp only[CT,Z]at h2
 ·have hy1:=Rr (Y:=Y) (by omega)
  have gy:=hdY.at (k:=((0:Int)).toNat) (by show 0<_;omega)
  rw[hy1]at gy
  have hrm:(CS (CQ X) % (CQ Y).getD ((0:Int)).toNat 0)=((X % Y:Nat):Int):=by rw[hmX,hy1,Cg]
  have hxy:X % Y<Y:=Ap _ hY0
  refine zV (.mm rfl<|.n (yS 0 Df (.t rfl) (.k rfl) (by omega) (by omega))<|.n (xy Fa rfl)<|.n (zP (fB hdX (by omega) (by omega) (by omega)) (A2 rfl))<|.m rfl<|.n (xk rfl)<|.n (xk rfl)<|.a rfl<|.z rfl) rfl fun g5=>CY (E2 6 7 rfl)<|zC<|yN (To.slot 7 rfl (q:=CW (.int .u64 ((X % Y:Nat):Int))) (D3 (by rw[hrm])))<|zV (.mm rfl<|.n (zP (Qs (n:=X % Y) (by omega)) (A1 rfl))<|.a rfl<|.z rfl) rfl fun g6=>CY (E2 4 5 rfl)<|De<|zD<|Lt rfl<|D3 (by rw[hmX,hy1,←Bo,Ar])
 obtain⟨N,hN⟩: ∃ N,(CQ Y).length=N+1+1:=⟨(CQ Y).length-2,by omega⟩
 obtain⟨S,hS,hS2,hlD,htop⟩:=Zb hN
 have etop:(((CQ Y).length:Int) -1).toNat=N+1:=by omega
 have gtop:0≤((CQ Y).getD (((CQ Y).length:Int) -1).toNat 0)∧((CQ Y).getD (((CQ Y).length:Int) -1).toNat 0)<18446744073709551616:=by rw[etop];exact hdY.at (k:=N+1) (by omega)
 have hlU:=RJ (X:=X) hS
 obtain⟨m,hm⟩: ∃ m,(CQ X).length+1=m+(N+1+1):=⟨(CQ X).length-N-1,by omega⟩
 have hDB:=rk hN hm hlD
 have hsx:=cu X S
 have hsy:=cu Y S
 obtain⟨hUl0,hUd,hUm⟩:=a1m (X:=X) hS hX0
 have hlx:(CQ X).length≤(CQ (X*2^S)).length:=Fw (BG _ (Ax S))
 have hap:((CQ (CS (CQ X)*2^S).toNat)++ [(0:Int),0]).length=(CQ (X*2^S)).length+2:=by rw[hsx,As];rfl
 obtain⟨U,hU⟩: ∃ U,U=(CQ (X*2^S)++ [0,0]).take ((CQ X).length+1):=⟨_,rfl⟩
 rw[←hU]at hUl0 hUd hUm
 obtain⟨d,hd⟩: ∃ d,d=CQ (Y*2^S):=⟨_,rfl⟩
 have hdd:DJ d:=by rw[hd];exact D9 _
 have hdm:CS d=((Y*2^S:Nat):Int):=by rw[hd,Do]
 have hdl:d.length=N+2:=by rw[hd];exact hlD
 have hD0:0<CS d:=by rw[hdm];exact BJ.2 (Nat.mul_pos hY0 (Ax S))
 have hdt:9223372036854775808≤d.getD (N+1) 0:=by rw[hd];exact htop
 have hUl:U.length=m+d.length:=by omega
 have hRl:(List.replicate ((U.length:Int) -(d.length:Int)).toNat (0:Int)).length=m:=by rw[Am];omega
 refine yE<|zW (.mm rfl<|.n (xv Df rfl)<|.n (xh rfl (wo (by omega)))<|.n (xx 0 Df rfl (by omega) (by omega))<|.n (xy Fa rfl)<|.n (zP (bn gtop.1 gtop.2) (A1 rfl))<|.n (xg KL I8 rfl (show IntKind.u64.wrap (64-(bl ((CQ Y).getD (((CQ Y).length:Int) -1).toNat 0).toNat:Int))=((S:Nat):Int) by rw[etop,←hS2];exact DD (by omega) (by omega)))<|.z rfl) rfl fun g7=>CY (E3 0 1 8 rfl)<|zW (.mm rfl<|.n (zP (WX hdY (by omega) (by omega)) (A2 rfl))<|.z rfl) rfl fun g8=>CY (E3 0 8 9 rfl)<|zC<|DS<|zF (Sg ?_)
 refine Ha 5 rfl<|(GQ (.mm rfl<|.w 0 (HO 0 (fw hdX (by omega) (by omega)) (A2 rfl) rfl)<|.n (xC Df M5 rfl (.cons rfl (.k rfl) D7 rfl (yU rfl (A8 rfl)) (.cons rfl (.k rfl) D7 rfl (yU rfl (A8 rfl)) .nil)))<|.w 0 (tw 49 0 rfl rfl (fun u=>(HN (mk:=Eh .u64) (ys:=[0,0]) 0 Df M5 rfl (.t rfl) (.t rfl) rfl (by rw[hsx];simp;omega) (by rw[hsx];simp;omega))))<|.nil) rfl fun g9=>CZ 0 (E4 0 8 9 51 rfl) rfl ?_)
 refine K7<|(GQ (.m rfl<|.n (xv Df rfl)<|.n (xo rfl (wo (by omega)))<|.r 0 (Ke 0 Df (.t rfl) (.t rfl) rfl (by omega) (by omega))<|.z rfl) rfl fun g10=>CZ 0 (E3 8 9 10 rfl) rfl ?_)
 refine zC<|yN (To.slot 9 rfl (q:=DP .u64 d) (D3 (by rw[hsy,←hd])))<|yN (To.res 0 (r':=DC (J0 (g9 51) ((CQ X).length+1)) (Eh .u64) U 71) rfl (by rw[hU,←hsx];exact US (by omega)) rfl)<|zV (.m rfl<|.n (xv Df rfl)<|.z rfl) rfl fun g11=>CZ 0 (E4 8 9 10 11 rfl) rfl<|zC<|DS<|zV (.m rfl<|.r 0 (EZ 0 Df (.t rfl) rfl)<|.m rfl<|.n (Eb (.t rfl) (.t rfl) (wo (by omega)))<|.w 1 (DI (mk:=Eh .u64) 0 1 Df M5 rfl (fun _=>⟨rfl,rfl⟩) (.t rfl) (.t rfl) (by omega) (by omega) (by omega) (by omega) rfl)<|.n (yX rfl rfl)<|.nil) rfl fun g12=>nx (E5 8 9 10 11 12 rfl) (R2 0 1 rfl)<|Dd<|zV (.m rfl<|.r 0 (EZ 0 Df (.t rfl) rfl)<|.m rfl<|.n (Eb (.t rfl) (.t rfl) (wo (by omega)))<|.n (xh rfl (wo (by omega)))<|.z rfl) rfl fun g13=>nx (E6 8 9 10 11 12 13 rfl) (R2 0 1 rfl)<|zC<|zT<|D4 (α:=Nat×List Int×List Int) (fun x=>SD ((X*2^S:Nat):Int) d x.2.1 x.2.2 m x.1) (fun x=>x.1) (fun x restR=>(13,I6 ((x.1:Int) -1))::restR) (fun x restS=>DC (J0 (g9 51) ((CQ X).length+1)) (Eh .u64) x.2.1 71::DC (g12 62) (Eh .u64) x.2.2 71::restS) (ρc:=[(8,_),(9,_),(10,_),(11,_),(12,_)]) (σc:=[]) (m,U,List.replicate m 0) (by exact(by rw[←hUm];exact fj hUd hUl (by rw[hUm,hdm];exact hDB))) (To.pick (fun _=> .sub (t:=13) rfl (yO (by exact congrArg (fun z=>I6 z) (by omega)))<|E5 8 9 10 11 12 rfl) (fun _=> .sub 0 rfl (fun _ _ h=>h)<|.sub 1 rfl (yQ (by rw[show((U.length:Int) -(d.length:Int)).toNat=m by omega]))<|.nil) (ks:=[0,1]) rfl) (fun x hI=>?_)
 obtain⟨k,u,q⟩:=x
 try simp only at hI
 show J _ _ ((13,I6 ((k:Int) -1))::_) (DC (J0 (g9 51) ((CQ X).length+1)) (Eh .u64) u 71::DC (g12 62) (Eh .u64) q 71::_) _ _
 refine zF<|zV (.m rfl<|.n (xd rfl)<|.nil) rfl fun g14=>nx (E7 8 9 10 11 12 13 69 rfl) (R2 0 1 rfl)<|zC<|zh rfl (fun h3=>?_) (fun h3=>?_)<;>try simp only[CT,Z]at h3
 ·obtain⟨j,rfl⟩: ∃ j,k=j+1:=⟨k-1,by omega⟩
  have hIk:=hI.hk
  have hIu:=hI.hul
  have hIq:=hI.hql
  have hIud:=hI.hud
  have ej:(((j+1:Nat):Int) -1).toNat=j:=by omega
  have hDW:=lG hdd hI (by omega) hdl hdt
  obtain⟨hOs,hQ0,hQ1⟩:=fi hdd hI (by omega) hD0
  refine yE<|Dd<|zT<|(zG [] (.mm rfl<|.mm rfl<|.mm rfl<|.n (xq rfl (wo (by omega)))<|.n (xo rfl (wo (by omega)))<|.r 0 (Uw 0 Df (.t rfl) (.t rfl) (.t rfl) rfl (by omega) (by omega) (by omega))<|.m rfl<|.w 0 (CV 0 (sj hIud hdd hdl (by omega) (by omega) hDW) ⟨(Lk.sub (wu (by omega) (by omega)) (.t rfl)),(.t rfl),trivial⟩ rfl)<|.r 1 (xz 1 Df rfl (by omega) (by omega))<|.w 1 (xA (mk:=Eh .u64) 1 rfl DY J4 rfl (by omega))<|.nil) ff rfl fun g15=>nx (E6 8 9 10 11 12 13 rfl) (R2 0 1 rfl) ?_)
  refine zR<|zC<|(zG [] (.m rfl<|.n (xh rfl (wo (by omega)))<|.z rfl) ff rfl fun g16=>nx (E6 8 9 10 11 12 13 rfl) (R2 0 1 rfl) ?_)
  exact yW (j,H8 u j (d.length+1) (Dy u j (d.length+1) % CS d),q.set j (Dy u j (d.length+1)/CS d)) (by exact hOs) (by show j<j+1;omega) (To.pick (fun _=> .sub (t:=13) rfl (yO (by exact congrArg (fun z=>I6 z) (by omega)))<|E5 8 9 10 11 12 rfl) (fun _=> .sub 0 rfl (fun _ _ h=>h)<|.sub 1 rfl (yQ (by rw[ej]))<|.nil) (ks:=[0,1]) rfl)
 obtain rfl:k=0:=by omega
 obtain⟨hq1,hq2,hq3⟩:=fh hdd hI hD0
 have hIu:=hI.hul
 have hIq:=hI.hql
 have hIud:=hI.hud
 have hIqd:=hI.hqd
 have hrm:=lI hI hY0 hdm
 have hrl:(CQ (CS u).toNat).length≤250000000000:=by rw[hrm];exact Ak (Fw (Au _ (Nat.mod_le X Y))) (by omega)
 refine D6<|zE<|zE<|zS<|zC<|yN (To.freeze 0 (fun _ h=>h) rfl Dz rfl)<|yN (To.freeze 1 (fun _ h=>h) rfl Dz rfl)<|zV (.m rfl<|.n (zP (Iy hIud) ⟨(Lk.sub (Ed 1 rfl) (.t rfl)),trivial⟩)<|.m rfl<|.n (zP (dm hrl (by omega)) (A2 rfl))<|.m rfl<|.n (xk rfl)<|.n (xk rfl)<|.a rfl<|.z rfl) rfl fun g17=>CY (E2 12 14 rfl)<|zW (.m rfl<|.n (zP (Iy hIqd) ⟨(Lk.sub (Ed 0 rfl) (.t rfl)),trivial⟩)<|.m rfl<|.a rfl<|.z rfl) rfl fun g18=>CY (E2 4 5 rfl)<|De<|Lt rfl<|D3 (by rw[hq1,hdm,rm hY0,hrm,Nat.mul_div_cancel _ (Ax S)])
end Go.Proofs.YtgfanjebfjeneaaGreatDoor
