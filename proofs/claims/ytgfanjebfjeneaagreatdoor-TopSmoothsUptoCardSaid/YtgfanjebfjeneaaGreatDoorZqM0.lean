/-
 A small logic for walks: what a slot holds is said by a predicate that lasts (SP), memory that the function itself owns is a resource (Res), and a region's operations are shown one by one; one theorem then serves every order that the region may draw. The logic of walks, second part: code (sequences, branches, loops, returns) over the states of the first part. The logic of walks, third part: the predicates (numbers, pointers, slices, structs) and the resources (a block, a slice that grows), and what each operation does to them. The logic of walks, fourth part: operations on memory, on floats, and calls. The logic of walks, fifth part: fields, indexes, slices, structs, floats; guards.
-/
import Derived.Orders
import Derived.Tactics
import Derived.Laws.FloatArith
import Derived.Laws.AppendOwn
import Derived.Laws.Cells
import Derived.Laws.Entries
import Derived.Laws.MakeOwn
import Derived.Laws.NewBlocks
import Derived.ChangeKeysEq
import Derived.Laws.OwnMore
set_option linter.unusedVariables false
set_option linter.unusedSimpArgs false
namespace Go.Bn
theorem A5:type_of% @Nat.le_refl:=@Nat.le_refl
theorem A7:type_of% @Nat.zero_le:=@Nat.zero_le
theorem A8:type_of% @Nat.le_of_ble_eq_true:=@Nat.le_of_ble_eq_true
theorem A9:type_of% @List.length_take.{0}:=@List.length_take
theorem Aa:type_of% @List.length_set.{0}:=@List.length_set
theorem Ab:type_of% @Int.mul_comm:=@Int.mul_comm
theorem Ac:type_of% @Int.mul_le_mul_of_nonneg_left:=@Int.mul_le_mul_of_nonneg_left
theorem Ad:type_of% @Int.natCast_mul:=@Int.natCast_mul
theorem Ae:type_of% @Int.mul_nonneg:=@Int.mul_nonneg
theorem Af:type_of% @Int.mul_le_mul_of_nonneg_right:=@Int.mul_le_mul_of_nonneg_right
theorem Ag:type_of% @List.getElem?_eq_getElem.{0}:=@List.getElem?_eq_getElem
theorem Ah:type_of% @Option.some.injEq.{0}:=@Option.some.injEq
theorem Ai:type_of% @Prod.mk.injEq.{0,0}:=@Prod.mk.injEq
theorem Aj:type_of% @Classical.byContradiction:=@Classical.byContradiction
theorem Ak:type_of% @Nat.le_trans:=@Nat.le_trans
theorem Al:type_of% @Int.mul_add:=@Int.mul_add
theorem Am:type_of% @List.length_replicate.{0}:=@List.length_replicate
theorem Ao:type_of% @Bool.and_eq_true:=@Bool.and_eq_true
theorem Ap:type_of% @Nat.mod_lt:=@Nat.mod_lt
theorem Aq:type_of% @Nat.zero_add:=@Nat.zero_add
theorem Ar:type_of% @Int.toNat_natCast:=@Int.toNat_natCast
theorem As:type_of% @List.length_append.{0}:=@List.length_append
theorem At:type_of% @Nat.min_eq_left:=@Nat.min_eq_left
theorem Au:type_of% @Nat.mul_le_mul_right:=@Nat.mul_le_mul_right
theorem Av:type_of% @Int.natAbs_natCast:=@Int.natAbs_natCast
theorem Aw:type_of% @Int.mul_assoc:=@Int.mul_assoc
theorem Ax:type_of% @Nat.two_pow_pos:=@Nat.two_pow_pos
theorem Ay:type_of% @Int.emod_nonneg:=@Int.emod_nonneg
theorem Az:type_of% @List.length_map.{0,0}:=@List.length_map
theorem AA:type_of% @Bool.or_assoc:=@Bool.or_assoc
theorem AB:type_of% @Int.emod_lt_of_pos:=@Int.emod_lt_of_pos
theorem AC:type_of% @List.getElem?_map.{0,0}:=@List.getElem?_map
theorem AD:type_of% @List.length_drop.{0}:=@List.length_drop
theorem AE:type_of% @List.mem_singleton.{0}:=@List.mem_singleton
theorem AF:type_of% @List.getElem?_drop.{0}:=@List.getElem?_drop
theorem AG:type_of% @List.length_cons.{0}:=@List.length_cons
theorem AH:type_of% @List.mem_cons.{0}:=@List.mem_cons
theorem AI:type_of% @List.take_length.{0}:=@List.take_length
theorem AJ:type_of% @Int.add_mul:=@Int.add_mul
theorem AK:type_of% @Int.one_mul:=@Int.one_mul
theorem AL:type_of% @Option.map_some.{0,0}:=@Option.map_some
theorem AM:type_of% @Bool.or_false:=@Bool.or_false
theorem AN:type_of% @List.take_of_length_le.{0}:=@List.take_of_length_le
theorem AO:type_of% @Nat.add_mul:=@Nat.add_mul
theorem AP:type_of% @Nat.mul_comm:=@Nat.mul_comm
theorem AQ:type_of% @Bool.or_eq_false_iff:=@Bool.or_eq_false_iff
theorem AR:type_of% @Int.mul_ediv_add_emod:=@Int.mul_ediv_add_emod
theorem AS:type_of% @Nat.pos_of_ne_zero:=@Nat.pos_of_ne_zero
theorem AT:type_of% @List.getElem?_eq_none.{0}:=@List.getElem?_eq_none
theorem AU:type_of% @List.getElem?_eq_some_iff.{0}:=@List.getElem?_eq_some_iff
theorem AV:type_of% @Int.emod_eq_of_lt:=@Int.emod_eq_of_lt
theorem AW:type_of% @List.getElem?_append_left.{0}:=@List.getElem?_append_left
theorem AX:type_of% @Nat.le_of_lt:=@Nat.le_of_lt
theorem AY:type_of% @Int.ediv_nonneg:=@Int.ediv_nonneg
theorem AZ:type_of% @Int.mul_one:=@Int.mul_one
theorem B1:type_of% @List.all_eq_true.{0}:=@List.all_eq_true
theorem B3:type_of% @List.mem_append_left.{0}:=@List.mem_append_left
theorem B4:type_of% @Nat.lt_of_lt_of_le:=@Nat.lt_of_lt_of_le
theorem B5:type_of% @Nat.one_mul:=@Nat.one_mul
theorem B6:type_of% @Nat.succ_mul:=@Nat.succ_mul
theorem B7:type_of% @List.drop_zero.{0}:=@List.drop_zero
theorem B8:type_of% @List.flatMap_cons.{0,0}:=@List.flatMap_cons
theorem B9:type_of% @List.getElem?_take.{0}:=@List.getElem?_take
theorem Ba:type_of% @Int.add_zero:=@Int.add_zero
theorem Bb:type_of% @Int.ediv_lt_of_lt_mul:=@Int.ediv_lt_of_lt_mul
theorem Bc:type_of% @Int.mul_le_mul:=@Int.mul_le_mul
theorem Bd:type_of% @Nat.pow_add:=@Nat.pow_add
theorem Be:type_of% @Int.emod_add_mul_ediv:=@Int.emod_add_mul_ediv
theorem Bf:type_of% @Int.natCast_add:=@Int.natCast_add
theorem Bg:type_of% @List.append_assoc.{0}:=@List.append_assoc
theorem Bh:type_of% @List.mem_of_getElem?.{0}:=@List.mem_of_getElem?
theorem Bi:type_of% @List.take_zero.{0}:=@List.take_zero
theorem Bj:type_of% @Nat.eq_of_beq_eq_true:=@Nat.eq_of_beq_eq_true
theorem Bk:type_of% @Nat.mul_ne_zero:=@Nat.mul_ne_zero
theorem Bl:type_of% @Nat.not_lt_zero:=@Nat.not_lt_zero
theorem Bm:type_of% @Bool.or_eq_true:=@Bool.or_eq_true
theorem Bo:type_of% @Int.natCast_ediv:=@Int.natCast_ediv
theorem Bp:type_of% @List.getElem?_append_right.{0}:=@List.getElem?_append_right
theorem Bq:type_of% @List.getElem?_set_ne.{0}:=@List.getElem?_set_ne
theorem Br:type_of% @List.map_cons.{0,0}:=@List.map_cons
theorem Bt:type_of% @List.mem_cons_of_mem.{0}:=@List.mem_cons_of_mem
theorem Bu:type_of% @List.take_append_drop.{0}:=@List.take_append_drop
theorem Bv:type_of% @Int.ediv_eq_zero_of_lt:=@Int.ediv_eq_zero_of_lt
theorem Bw:type_of% @Int.fdiv_eq_ediv_of_nonneg:=@Int.fdiv_eq_ediv_of_nonneg
theorem Bx:type_of% @Nat.add_zero:=@Nat.add_zero
theorem By:type_of% @Nat.div_one:=@Nat.div_one
theorem Bz:type_of% @Nat.mul_one:=@Nat.mul_one
theorem BA:type_of% @Array.getElem?_eq_some_iff.{0}:=@Array.getElem?_eq_some_iff
theorem BB:type_of% @Int.natAbs_mul:=@Int.natAbs_mul
theorem BC:type_of% @List.length_eq_zero_iff.{0}:=@List.length_eq_zero_iff
theorem BD:type_of% @List.mem_append.{0}:=@List.mem_append
theorem BE:type_of% @Nat.div_lt_self:=@Nat.div_lt_self
theorem BG:type_of% @Nat.le_mul_of_pos_right:=@Nat.le_mul_of_pos_right
theorem BH:type_of% @Nat.mod_eq_of_lt:=@Nat.mod_eq_of_lt
theorem BI:type_of% @Int.add_mul_ediv_left:=@Int.add_mul_ediv_left
theorem BJ:type_of% @Int.ofNat_lt:=@Int.ofNat_lt
theorem BK:type_of% @List.drop_of_length_le.{0}:=@List.drop_of_length_le
theorem BL:type_of% @List.getElem?_set_self.{0}:=@List.getElem?_set_self
theorem BM:type_of% @List.mem_filterMap.{0,0}:=@List.mem_filterMap
theorem BN:type_of% @Nat.eq_zero_or_pos:=@Nat.eq_zero_or_pos
theorem BO:type_of% @Nat.gcd_dvd_left:=@Nat.gcd_dvd_left
theorem BP:type_of% @Nat.gcd_dvd_right:=@Nat.gcd_dvd_right
theorem BQ:type_of% @Nat.le_of_not_lt:=@Nat.le_of_not_lt
theorem BR:type_of% @Nat.zero_mul:=@Nat.zero_mul
theorem BT:type_of% @Option.bind_some.{0,0}:=@Option.bind_some
theorem BU:type_of% @Int.add_comm:=@Int.add_comm
theorem BV:type_of% @Int.mul_left_comm:=@Int.mul_left_comm
theorem BW:type_of% @Int.natAbs_neg:=@Int.natAbs_neg
theorem BX:type_of% @Int.ofNat_le:=@Int.ofNat_le
theorem BY:type_of% @Int.tmod_eq_emod_of_nonneg:=@Int.tmod_eq_emod_of_nonneg
theorem BZ:type_of% @List.drop_eq_getElem_cons.{0}:=@List.drop_eq_getElem_cons
theorem C1:type_of% @List.ext_getElem?.{0}:=@List.ext_getElem?
theorem C2:type_of% @List.getElem?_cons_zero.{0}:=@List.getElem?_cons_zero
theorem C3:type_of% @List.map_append.{0,0}:=@List.map_append
theorem C4:type_of% @List.mem_cons_self.{0}:=@List.mem_cons_self
theorem C5:type_of% @List.replicate_succ.{0}:=@List.replicate_succ
theorem C6:type_of% @Nat.add_assoc:=@Nat.add_assoc
theorem C7:type_of% @Nat.div_mul_cancel:=@Nat.div_mul_cancel
theorem C8:type_of% @Nat.lt_of_le_of_lt:=@Nat.lt_of_le_of_lt
theorem C9:type_of% @Nat.mul_le_mul:=@Nat.mul_le_mul
theorem Ca:type_of% @Nat.pow_succ:=@Nat.pow_succ
theorem Cb:type_of% @Nat.sub_self:=@Nat.sub_self
theorem Cc:type_of% @Option.getD_some.{0}:=@Option.getD_some
theorem Cd:type_of% @Array.getD_eq_getD_getElem?.{0}:=@Array.getD_eq_getD_getElem?
theorem Ce:type_of% @Array.getElem?_eq_getElem.{0}:=@Array.getElem?_eq_getElem
theorem Cf:type_of% @Array.getElem?_toList.{0}:=@Array.getElem?_toList
theorem Cg:type_of% @Int.natCast_emod:=@Int.natCast_emod
theorem Ch:type_of% @Int.natCast_pow:=@Int.natCast_pow
theorem Ci:type_of% @List.getElem?_range:=@List.getElem?_range
theorem Cj:type_of% @List.getElem?_set.{0}:=@List.getElem?_set
theorem Ck:type_of% @List.nil_append.{0}:=@List.nil_append
theorem Cm:type_of% @Nat.div_add_mod:=@Nat.div_add_mod
theorem Cn:type_of% @Nat.div_eq_of_lt:=@Nat.div_eq_of_lt
theorem Co:type_of% @Nat.div_le_self:=@Nat.div_le_self
theorem Cp:type_of% @Nat.gcd_pos_of_pos_right:=@Nat.gcd_pos_of_pos_right
theorem Cq:type_of% @Nat.max_eq_left:=@Nat.max_eq_left
theorem Cr:type_of% @Nat.max_eq_right:=@Nat.max_eq_right
theorem Cs:type_of% @Bool.false_eq_true:=@Bool.false_eq_true
theorem Cu:type_of% @Bool.not_eq_true':=@Bool.not_eq_true'
theorem Cv:type_of% @Int.natCast_dvd_natCast:=@Int.natCast_dvd_natCast
theorem Cw:type_of% @Int.tdiv_eq_ediv_of_nonneg:=@Int.tdiv_eq_ediv_of_nonneg
theorem Cy:type_of% @List.getElem?_toArray.{0}:=@List.getElem?_toArray
theorem Cz:type_of% @List.length_singleton.{0}:=@List.length_singleton
theorem CA:type_of% @List.mem_of_mem_take.{0}:=@List.mem_of_mem_take
theorem CB:type_of% @List.singleton_append.{0}:=@List.singleton_append
theorem CC:type_of% @Nat.div_lt_iff_lt_mul:=@Nat.div_lt_iff_lt_mul
theorem CD:type_of% @Nat.one_le_two_pow:=@Nat.one_le_two_pow
theorem CE:type_of% @Array.getElem?_append_left.{0}:=@Array.getElem?_append_left
theorem CF:type_of% @Int.add_mul_ediv_right:=@Int.add_mul_ediv_right
theorem CG:type_of% @Int.add_mul_emod_self_left:=@Int.add_mul_emod_self_left
theorem CH:type_of% @Int.add_mul_emod_self_right:=@Int.add_mul_emod_self_right
theorem CI:type_of% @Int.dvd_mul_of_dvd_right:=@Int.dvd_mul_of_dvd_right
theorem CJ:type_of% @Int.le_ediv_iff_mul_le:=@Int.le_ediv_iff_mul_le
theorem CK:type_of% @Int.mul_lt_mul_of_pos_right:=@Int.mul_lt_mul_of_pos_right
theorem CM:type_of% @List.mem_append_right.{0}:=@List.mem_append_right
theorem CN:type_of% @Option.map_eq_some_iff.{0,0}:=@Option.map_eq_some_iff
theorem CO:type_of% @List.eq_nil_of_length_eq_zero.{0}:=@List.eq_nil_of_length_eq_zero
theorem CP:type_of% @List.take_append_of_le_length.{0}:=@List.take_append_of_le_length
open Go
structure EW where
 w:World
 M:Nat→Prop
structure Le(c c':EW):Prop where
 os:c'.w.os=c.w.os
 tape:c'.w.tape=c.w.tape
 out:c'.w.output=c.w.output
 size:c.w.heap.size≤c'.w.heap.size
 keep: ∀ k,k<c.w.heap.size→ ¬c.M k→c'.w.heap[k]? =c.w.heap[k]? ∧ ¬c'.M k
theorem Le.refl(c:EW):Le c c:=⟨rfl,rfl,rfl,A5 _,fun _ _ h=>⟨rfl,h⟩⟩
theorem Le.trans{a b c:EW}(h:Le a b)(k:Le b c):Le a c:=
 ⟨k.os.trans h.os,k.tape.trans h.tape,k.out.trans h.out,Ak h.size k.size,fun i hi hm=>
  have h1:=h.keep i hi hm
  have h2:=k.keep i (B4 hi h.size) h1.2
  ⟨h2.1.trans h1.1,h2.2⟩⟩
structure SP where
 H:Value→EW→Prop
 st: ∀ v c c',Le c c'→H v c→H v c'
abbrev Bs:=Nat→Prop
def Ix:Bs:=fun _=>False
def only(b:Nat):Bs:=fun k=>k=b
structure Res where
 H:EW→Bs→Prop
 fr: ∀ c c' ob,Le c c'→(∀ b,ob b→c'.w.heap[b]? =c.w.heap[b]?)→H c ob→H c' ob
abbrev Vl:=Nat→Value
def vl(a:Act):Vl:=fun t=>a.tmps.getD t undef
def Sx(f:Vl)(d:Option Nat)(v:Value):Vl:=
 match d with
 |some d=>fun t=>cond (Nat.beq d t) v (f t)
 |none=>f
inductive VE where
 |c (p:SP)
 |d (D:List Nat) (q:Vl→SP) (h: ∀ f g:Vl,(∀ t,t∈D→f t=g t)→q f=q g)
def VE.at:VE→Vl→SP
 | .c p,_=>p
 | .d _ q _,f=>q f
def VE.D:VE→List Nat
 | .c _=>[]
 | .d D _ _=>D
theorem VE.congr(e:VE)(f g:Vl)(h: ∀ t,t∈e.D→f t=g t):e.at f=e.at g:=by
 cases e with
 |c p=>rfl
 |d D q hq=>exact hq f g h
inductive VR where
 |c (r:Res)
 |d (D:List Nat) (q:Vl→Res) (h: ∀ f g:Vl,(∀ t,t∈D→f t=g t)→q f=q g)
def VR.at:VR→Vl→Res
 | .c p,_=>p
 | .d _ q _,f=>q f
def VR.D:VR→List Nat
 | .c _=>[]
 | .d D _ _=>D
theorem VR.congr(e:VR)(f g:Vl)(h: ∀ t,t∈e.D→f t=g t):e.at f=e.at g:=by
 cases e with
 |c p=>rfl
 |d D q hq=>exact hq f g h
abbrev DU:=List (Nat×SP)
abbrev DK:=List (Nat×VE)
def DU.get:DU→Nat→Option SP
 |[],_=>none
 |(k,p)::es,t=>cond (Nat.beq k t) (some p) (DU.get es t)
def DA:DK→DU→Nat→Option VE
 |[],ρ,t=>match ρ.get t with|some p=>some (.c p)|none=>none
 |(k,e)::es,ρ,t=>cond (Nat.beq k t) (some e) (DA es ρ t)
def Et(g:Vl):DK→DU→Nat→Option SP
 |[],ρ,t=>ρ.get t
 |(k,e)::es,ρ,t=>cond (Nat.beq k t) (match e with| .c p=>some p| .d _ q _=>some (q g)) (Et g es ρ t)
theorem aQ(g:Vl)(ρ:DU)(t:Nat): ∀ δ:DK,Et g δ ρ t=(DA δ ρ t).map (·.at g)
 |[]=>by simp only[Et,DA];cases ρ.get t<;>rfl
 |(k,e)::es=>by
  simp only[Et,DA]
  cases Nat.beq k t
  ·exact aQ g ρ t es
  cases e<;>rfl
abbrev D2:=List (Value×SP)
/- What lies in the program's own variables (all that the walks of this seat need of them). -/
def Yx:List Int:=[0,1,56,2,57,49,28,3,61,58,42,50,38,29,17,4,62,47,59,36,45,43,51,22,53,39,33,30,24,18,12,5,63,55,48,27,60,41,37,16,46,35,44,21,52,32,23,11,54,26,40,15,34,20,31,10,25,14,19,9,13,8,7,6]
def uT:List Int:=[0,1,28,2,29,14,24,3,30,22,20,15,25,17,4,8,31,27,13,23,21,19,16,7,26,12,18,6,11,5,10,9]
def S8:Value:= .pointer (some ⟨1,0,none⟩)
def ZD:Value:= .pointer (some ⟨2,0,none⟩)
def XI(n:Nat)(l:List Int):SP:=⟨fun _ c=> ¬c.M n∧ ∃ cur T fz,c.w.heap[n]? =some (.cells cur T fz)∧ ∀ (i:Nat) (z:Int),l[i]? =some z→cur[i]? =some (Value.int .u8 z),by
 rintro v c c' hle ⟨h1,cur,T,fz,h2,h3⟩
 have hk:=hle.keep n (BA.1 h2).1 h1
 exact⟨hk.2,cur,T,fz,hk.1.trans h2,h3⟩⟩
def tW:SP:=XI 1 Yx
def a0v:SP:=XI 2 uT
def nR:Nat:=1
def wH:Nat:=2
def Gl:D2:=[(S8,tW),(ZD,a0v)]
def FG(c:EW):Prop:= ∀ v p,(v,p)∈Gl→p.H v c
theorem FG.le{c c':EW}(h:Le c c')(hf:FG c):FG c':=fun v p hm=>p.st v c c' h (hf v p hm)
def FH(Γ:D2)(c:EW):Prop:=(∀ v p,(v,p)∈Γ→p.H v c)∧FG c
theorem FH.le{Γ:D2}{c c':EW}(h:Le c c')(hf:FH Γ c):FH Γ c':=⟨fun v p hm=>p.st v c c' h (hf.1 v p hm),hf.2.le h⟩
def EH(ρ:DU)(f:Vl)(c:EW):Prop:= ∀ t p,ρ.get t=some p→p.H (f t) c
theorem EH.le{ρ:DU}{f:Vl}{c c':EW}(h:Le c c')(hf:EH ρ f c):EH ρ f c':=fun t p hm=>p.st _ c c' h (hf t p hm)
def GP(P:Program)(o:Oper)(a:Act)(w:World)(R:Value→World→Prop):Prop:=
 match (execOp a.eval o).run P w with
 | .ok (.value v) w'=>R v w'
 | .ok .skip w'=>R undef w'
 | .ok (.enter f args) w'=>Calls P f args w' (fun e w''=> ∃ v,e= .returned v∧R v w'')
 |_=>False
theorem GP.mono{P:Program}{o:Oper}{a:Act}{w:World}{R R':Value→World→Prop}(h:GP P o a w R)(hr: ∀ v w',R v w'→R' v w'):GP P o a w R':=by
 unfold GP at*
 split at h
 ·exact hr _ _ h
 ·exact hr _ _ h
 ·exact h.mono fun e w' ⟨v,he,hv⟩=>⟨v,he,hr _ _ hv⟩
 exact h.elim
theorem GP.wp{P:Program}{o:Oper}{a:Act}{w:World}{R:Value→World→Prop}{K:Act→World→Prop}{Q:Exit→Act→World→Prop}
  (h:GP P o a w R) (hr: ∀ v w',R v w'→K (a.put o.dst v) w'):o.wp P a w K Q:=by
 unfold GP at h
 unfold Oper.wp
 generalize (execOp a.eval o).run P w=r at*
 cases r with
 |ok n w'=>
  cases n<;>simp only[Oper.upon]at h⊢
  case value v=>exact hr _ _ h
  case skip=>exact hr _ _ h
  case enter f args=>exact h.mono fun e w'' ⟨v,he,hv⟩=>by subst he;exact hr _ _ hv
 |halt x w'=>cases x<;>simp only at h
inductive Jg where
 |no
 |rd (k:Nat)
 |wr (k:Nat)
def Jg.w:Jg→Bool
 | .wr _=>true
 |_=>false
def Jg.isW:Jg→Nat→Bool
 | .wr j,k=>Nat.beq j k
 |_,_=>false
def Jg.k:Jg→Option Nat
 | .no=>none
 | .rd k=>some k
 | .wr k=>some k
structure Tr(c:EW)(ob:Bs)(wr:Bool)(c':EW)(ob':Bs):Prop where
 os:c'.w.os=c.w.os
 tape:c'.w.tape=c.w.tape
 out:c'.w.output=c.w.output
 size:c.w.heap.size≤c'.w.heap.size
 heap: ∀ k,k<c.w.heap.size→(wr=true→ ¬ob k)→c'.w.heap[k]? =c.w.heap[k]?
 mem: ∀ k,k<c.w.heap.size→(c'.M k→c.M k)∧(c.M k→c'.M k∨(wr=true∧ob k∧ ¬ob' k))
 own:ob'=ob∨(wr=true∧ ∀ b,ob' b→ob b∨(c.w.heap.size≤b∧c'.M b))
 lt: ∀ k,c'.M k→k<c'.w.heap.size
theorem Tr.le{c c':EW}{ob ob':Bs}{wr:Bool}(h:Tr c ob wr c' ob')(hm: ∀ b,ob b→c.M b):Le c c':=
 ⟨h.os,h.tape,h.out,h.size,fun k hk hn=>⟨h.heap k hk (fun _ e=>hn (hm k e)),fun hc=>hn ((h.mem k hk).1 hc)⟩⟩
def PG:List VR→Nat→VR→List VR
 |[],_,_=>[]
 |_::l,0,r=>r::l
 |x::l,k+1,r=>x::PG l k r
theorem RY(l:List VR)(k:Nat)(r:VR):PG l k r=l.set k r:=by
 induction l generalizing k with
 |nil=>rfl
 |cons x l ih=>cases k<;>simp[PG,ih]
def nth{α:Type}:List α→Nat→Option α
 |[],_=>none
 |x::_,0=>some x
 |_::l,k+1=>nth l k
theorem Dq{α:Type}(l:List α)(k:Nat):nth l k=l[k]? :=by
 induction l generalizing k with
 |nil=>rfl
 |cons x l ih=>cases k<;>simp[nth,ih]
def OpOK(P:Program)(n:Nat)(ops:Array Oper)(Γ:D2)(ρ:DU)(δ:DK)(τ:List VR)(o:Oper)(acc:Jg)(e:VE)(r':VR):Prop:=
 ∀ (a:Act) (c:EW) (ob:Bs),a.tmps.size=n→(∀ k,c.M k→k<c.w.heap.size)→FH Γ c→
  (∀ t,t∈o.looksAt ops→ ∀ q,DA δ ρ t=some q→(q.at (vl a)).H (vl a t) c)→
  (∀ k,acc.k=some k→ ∃ r,nth τ k=some r∧(r.at (vl a)).H c ob)→(acc.k=none→ob=Ix)→(∀ b,ob b→c.M b∧b<c.w.heap.size)→
  if Region.wanted o (yielded ops a.tmps)then
   GP P o a c.w fun v w'=> ∃ c' ob',c'.w=w'∧Tr c ob acc.w c' ob'∧(e.at (Sx (vl a) o.dst v)).H v c'∧(acc.w=true→(r'.at (Sx (vl a) o.dst v)).H c' ob')
  else acc.w=false∧(e.at (Sx (vl a) o.dst undef)).H undef c
structure Ei where
 acc:Jg
 e:VE
 r:VR
 q:Option (VR→Prop)
def Ei.ac(i:Ei):Jg:=match i.q,i.acc with
 |some _,.rd _=> .no
 |_,a=>a
def HR(d:Option Nat)(e:VE)(δ:DK):DK:=match d with|some d=>(d,e)::δ|none=>δ
def KG(acc:Jg)(r:VR)(τ:List VR):List VR:=match acc with| .wr k=>PG τ k r|_=>τ
inductive Steps(P:Program)(n:Nat)(ops:Array Oper)(Γ:D2)(ρ:DU):DK→List VR→List Oper→List Ei→DK→List VR→Prop where
 |nil {δ:DK} {τ:List VR}:Steps P n ops Γ ρ δ τ [] [] δ τ
 |cons {δ δ':DK} {τ τ':List VR} {o:Oper} {l:List Oper} {is:List Ei} (acc:Jg) (e:VE) (r:VR) (h:OpOK P n ops Γ ρ δ τ o acc e r)
   (hr:Steps P n ops Γ ρ (HR o.dst e δ) (KG acc r τ) l is δ' τ'):Steps P n ops Γ ρ δ τ (o::l) (⟨acc,e,r,none⟩::is) δ' τ'
 |rs {δ δ':DK} {τ τ':List VR} {o:Oper} {l:List Oper} {is:List Ei} (k:Nat) (e:VE) (r:VR) {q:VR→Prop} (hq: ∃ x,nth τ k=some x∧q x) (h: ∀ τ1:List VR,(∃ x,nth τ1 k=some x∧q x)→OpOK P n ops Γ ρ δ τ1 o (.rd k) e r)
   (hr:Steps P n ops Γ ρ (HR o.dst e δ) τ l is δ' τ'):Steps P n ops Γ ρ δ τ (o::l) (⟨.rd k,e,r,some q⟩::is) δ' τ'
theorem Steps.n{P:Program}{n:Nat}{ops:Array Oper}{Γ:D2}{ρ:DU}{δ δ':DK}{τ τ':List VR}{o:Oper}{l:List Oper}{is:List Ei}{e:VE}{r:VR}(h:OpOK P n ops Γ ρ δ τ o .no e r)(hr:Steps P n ops Γ ρ (HR o.dst e δ) (KG .no r τ) l is δ' τ'):Steps P n ops Γ ρ δ τ (o::l) (⟨.no,e,r,none⟩::is) δ' τ':= .cons .no e r h hr
theorem Steps.r{P:Program}{n:Nat}{ops:Array Oper}{Γ:D2}{ρ:DU}{δ δ':DK}{τ τ':List VR}{o:Oper}{l:List Oper}{is:List Ei}(k:Nat){e:VE}{r:VR}(h:OpOK P n ops Γ ρ δ τ o (.rd k) e r)(hr:Steps P n ops Γ ρ (HR o.dst e δ) (KG (.rd k) r τ) l is δ' τ'):Steps P n ops Γ ρ δ τ (o::l) (⟨(.rd k),e,r,none⟩::is) δ' τ':= .cons (.rd k) e r h hr
theorem Steps.w{P:Program}{n:Nat}{ops:Array Oper}{Γ:D2}{ρ:DU}{δ δ':DK}{τ τ':List VR}{o:Oper}{l:List Oper}{is:List Ei}(k:Nat){e:VE}{r:VR}(h:OpOK P n ops Γ ρ δ τ o (.wr k) e r)(hr:Steps P n ops Γ ρ (HR o.dst e δ) (KG (.wr k) r τ) l is δ' τ'):Steps P n ops Γ ρ δ τ (o::l) (⟨(.wr k),e,r,none⟩::is) δ' τ':= .cons (.wr k) e r h hr
section region
variable {P:Program} {n:Nat} {ops:Array Oper} {Γ:D2} {ρ:DU}
def GL(ops:Array Oper)(is:List Ei)(L:Nat→Bool):Nat→DK
 |0=>[]
 |m+1=>match ops[m]?,is[m]? with
  |some o,some i=>if L m then HR o.dst i.e (GL ops is L m)else GL ops is L m
  |_,_=>GL ops is L m
def G5(ops:Array Oper)(is:List Ei)(τ:List VR)(L:Nat→Bool):Nat→List VR
 |0=>τ
 |m+1=>match ops[m]?,is[m]? with
  |some _,some i=>if L m then KG i.acc i.r (G5 ops is τ L m)else G5 ops is τ L m
  |_,_=>G5 ops is τ L m
theorem FO{a b:Nat}(h:a≠b):Nat.beq a b=false:=by
 cases e:Nat.beq a b
 ·rfl
 exact(h (Bj e)).elim
theorem Hv(d:Option Nat)(e:VE)(δ:DK)(t:Nat):DA (HR d e δ) ρ t=if d=some t then some e else DA δ ρ t:=by
 cases d with
 |none=>simp[HR]
 |some d=>
  simp only[HR,DA,Ah]
  by_cases h:d=t
  ·subst h;simp
  rw[if_neg h,FO h];rfl
theorem IL(acc:Jg)(r:VR)(τ:List VR)(k:Nat):nth (KG acc r τ) k=if acc.isW k=true∧k<τ.length then some r else nth τ k:=by
 cases acc with
 |no=>simp[KG,Jg.isW]
 |rd j=>simp[KG,Jg.isW]
 |wr j=>
  simp only[KG,Jg.isW]
  rw[RY,Dq,Dq,Cj]
  by_cases h:j=k
  ·subst h
   by_cases h2:j<τ.length
   ·simp[h2]
   simp[h2]
  simp[h,FO h]
theorem Wm(acc:Jg)(r:VR)(τ:List VR):(KG acc r τ).length=τ.length:=by
 cases acc<;>simp[KG,RY]
theorem Fu(is:List Ei)(τ:List VR)(L:Nat→Bool): ∀ m,(G5 ops is τ L m).length=τ.length
 |0=>rfl
 |m+1=>by
  simp only[G5]
  split
  ·split
   ·rw[Wm,Fu is τ L m]
   exact Fu is τ L m
  exact Fu is τ L m
theorem Ju(is:List Ei)(t:Nat)(L L':Nat→Bool): ∀ m,(∀ j,j<m→ ∀ o,ops[j]? =some o→o.dst=some t→L j=L' j)→
  DA (GL ops is L m) ρ t=DA (GL ops is L' m) ρ t
 |0,_=>rfl
 |m+1,h=>by
  have ih:=Ju is t L L' m (fun j hj=>h j (by omega))
  simp only[GL]
  split
  ·rename_i o i ho hi
   by_cases hd:o.dst=some t
   ·have hl:=h m (by omega) o ho hd
    rw[hl]
    split
    ·rw[Hv,Hv,if_pos hd,if_pos hd]
    exact ih
   have e1: ∀ (b:Bool) δ,DA (if b then HR o.dst i.e δ else δ) ρ t=DA δ ρ t:=fun b δ=>by
    cases b
    ·rfl
    simp[Hv,hd]
   rw[e1,e1,ih]
  exact ih
theorem Kw(is:List Ei)(τ:List VR)(k:Nat)(L L':Nat→Bool): ∀ m,(∀ j,j<m→ ∀ i,is[j]? =some i→i.acc.isW k=true→L j=L' j)→
  nth (G5 ops is τ L m) k=nth (G5 ops is τ L' m) k
 |0,_=>rfl
 |m+1,h=>by
  have ih:=Kw is τ k L L' m (fun j hj=>h j (by omega))
  simp only[G5]
  split
  ·rename_i o i ho hi
   by_cases hd:i.acc.isW k=true
   ·have hl:=h m (by omega) i hi hd
    rw[hl]
    split
    ·rw[IL,IL,Fu,Fu,ih]
    exact ih
   have e1: ∀ (b:Bool) δ,nth (if b then KG i.acc i.r δ else δ) k=nth δ k:=fun b δ=>by
    cases b
    ·rfl
    simp[IL,hd]
   rw[e1,e1,ih]
  exact ih
theorem QV(is:List Ei)(L:Nat→Bool)(i:Nat): ∀ m,i≤m→(∀ j,i≤j→L j=false)→GL ops is L m=GL ops is L i
 |0,h,_=>by rw[Nat.le_zero.1 h]
 |m+1,h,hL=>by
  by_cases he:i=m+1
  ·rw[he]
  have:=QV is L i m (by omega) hL
  simp only[GL]
  split
  ·rw[hL m (by omega)];exact this
  exact this
theorem RS(is:List Ei)(τ:List VR)(L:Nat→Bool)(i:Nat): ∀ m,i≤m→(∀ j,i≤j→L j=false)→G5 ops is τ L m=G5 ops is τ L i
 |0,h,_=>by rw[Nat.le_zero.1 h]
 |m+1,h,hL=>by
  by_cases he:i=m+1
  ·rw[he]
  have:=RS is τ L i m (by omega) hL
  simp only[G5]
  split
  ·rw[hL m (by omega)];exact this
  exact this
def uj(P:Program)(n:Nat)(ops:Array Oper)(Γ:D2)(ρ:DU)(δ:DK)(τ:List VR)(o:Oper)(i:Ei):Prop:=
 (i.q=none→OpOK P n ops Γ ρ δ τ o i.acc i.e i.r)∧ ∀ q,i.q=some q→ ∃ k,i.acc= .rd k∧ ∀ τ1:List VR,(∃ x,nth τ1 k=some x∧q x)→OpOK P n ops Γ ρ δ τ1 o (.rd k) i.e i.r
theorem Steps.spec{δ δ':DK}{τ τ':List VR}{l:List Oper}{is:List Ei}(h:Steps P n ops Γ ρ δ τ l is δ' τ'):
  ∀ (k:Nat) (is0:List Ei),(∀ j,l[j]? =ops[k+j]?)→is0.length=k→ ∀ (τ0:List VR),δ=GL ops (is0++is) (fun _=>true) k→τ=G5 ops (is0++is) τ0 (fun _=>true) k→
   is.length=l.length∧δ'=GL ops (is0++is) (fun _=>true) (k+l.length)∧τ'=G5 ops (is0++is) τ0 (fun _=>true) (k+l.length)∧
   ∀ j o i,ops[k+j]? =some o→is[j]? =some i→uj P n ops Γ ρ (GL ops (is0++is) (fun _=>true) (k+j)) (G5 ops (is0++is) τ0 (fun _=>true) (k+j)) o i:=by
 induction h with
 |nil=>
  intro k is0 hl hk τ0 hδ hτ
  exact⟨rfl,hδ,hτ,fun j o i ho hi=>by simp at hi⟩
 | @cons δ δ' τ τ' o l is acc e r hop hr ih=>
  intro k is0 hl hk τ0 hδ hτ
  have h0:ops[k]? =some o:=by simpa using (hl 0).symm
  have hi0:(is0++⟨acc,e,r,none⟩::is)[k]? =some ⟨acc,e,r,none⟩:=by subst hk;simp
  have hE:HR o.dst e δ=GL ops ((is0++ [⟨acc,e,r,none⟩])++is) (fun _=>true) (k+1):=by
   simp only[Bg,CB,GL,h0,hi0,if_true,←hδ]
  have hR:KG acc r τ=G5 ops ((is0++ [⟨acc,e,r,none⟩])++is) τ0 (fun _=>true) (k+1):=by
   simp only[Bg,CB,G5,h0,hi0,if_true,←hτ]
  obtain⟨g1,g2,g3,g4⟩:=ih (k+1) (is0++ [⟨acc,e,r,none⟩]) (fun j=>by have:=hl (j+1);simpa[C6,Nat.add_comm 1 j]using this) (by simp[hk]) τ0 hE hR
  simp only[Bg,CB]at g2 g3 g4
  refine⟨by simp[g1],?_,?_,?_⟩
  ·rw[g2];congr 1;simp;omega
  ·rw[g3];congr 1;simp;omega
  intro j o' i' ho' hi'
  cases j with
  |zero=>
   simp only[Bx]at ho'⊢
   rw[h0]at ho'
   cases ho'
   simp only[C2,Ah]at hi'
   subst hi'
   rw[←hδ,←hτ]
   exact⟨fun _=>hop,fun q hq=>by cases hq⟩
  |succ j=>
   have:=g4 j o' i' (by rw[←ho'];congr 1;omega) (by simpa using hi')
   have e1:k+1+j=k+(j+1):=by omega
   rw[e1]at this
   exact this
 | @rs δ δ' τ τ' o l is kk e r q hq0 hop hr ih=>
  intro k is0 hl hk τ0 hδ hτ
  have h0:ops[k]? =some o:=by simpa using (hl 0).symm
  have hi0:(is0++⟨.rd kk,e,r,some q⟩::is)[k]? =some ⟨.rd kk,e,r,some q⟩:=by subst hk;simp
  have hE:HR o.dst e δ=GL ops ((is0++ [⟨.rd kk,e,r,some q⟩])++is) (fun _=>true) (k+1):=by
   simp only[Bg,CB,GL,h0,hi0,if_true,←hδ]
  have hR:τ=G5 ops ((is0++ [⟨.rd kk,e,r,some q⟩])++is) τ0 (fun _=>true) (k+1):=by
   simp only[Bg,CB,G5,h0,hi0,if_true,KG,←hτ]
  obtain⟨g1,g2,g3,g4⟩:=ih (k+1) (is0++ [⟨.rd kk,e,r,some q⟩]) (fun j=>by have:=hl (j+1);simpa[C6,Nat.add_comm 1 j]using this) (by simp[hk]) τ0 hE hR
  simp only[Bg,CB]at g2 g3 g4
  refine⟨by simp[g1],?_,?_,?_⟩
  ·rw[g2];congr 1;simp;omega
  ·rw[g3];congr 1;simp;omega
  intro j o' i' ho' hi'
  cases j with
  |zero=>
   simp only[Bx]at ho'⊢
   rw[h0]at ho'
   cases ho'
   simp only[C2,Ah]at hi'
   subst hi'
   rw[←hδ]
   exact⟨fun h=>(by cases h),fun q' hq=>by cases hq;exact⟨kk,rfl,hop⟩⟩
  |succ j=>
   have:=g4 j o' i' (by rw[←ho'];congr 1;omega) (by simpa using hi')
   have e1:k+1+j=k+(j+1):=by omega
   rw[e1]at this
   exact this
structure Yg(c0:EW)(E:Nat→Prop)(c:EW)(obs:Nat→Bs):Prop where
 os:c.w.os=c0.w.os
 tape:c.w.tape=c0.w.tape
 out:c.w.output=c0.w.output
 size:c0.w.heap.size≤c.w.heap.size
 heap: ∀ k,k<c0.w.heap.size→ ¬E k→c.w.heap[k]? =c0.w.heap[k]?
 mem: ∀ k,k<c0.w.heap.size→(c.M k→c0.M k)∧(c0.M k→c.M k∨E k)
 wf: ∀ k,c.M k→k<c.w.heap.size
 has: ∀ k b,obs k b→c.M b∧(c0.w.heap.size≤b∨E b)
 one: ∀ k k' b,obs k b→obs k' b→k=k'
 wf0: ∀ k,c0.M k→k<c0.w.heap.size
theorem Yg.lt{c0 c:EW}{E:Nat→Prop}{obs:Nat→Bs}(h:Yg c0 E c obs){k b:Nat}(hk:obs k b):b<c.w.heap.size:=h.wf b (h.has k b hk).1
theorem Yg.no{c0 c c':EW}{E:Nat→Prop}{obs:Nat→Bs}{ob ob':Bs}(h:Yg c0 E c obs)(ht:Tr c ob false c' ob'):Yg c0 E c' obs where
 os:=ht.os.trans h.os
 tape:=ht.tape.trans h.tape
 out:=ht.out.trans h.out
 size:=Ak h.size ht.size
 heap k hk hE:=(ht.heap k (B4 hk h.size) (by simp)).trans (h.heap k hk hE)
 mem k hk:=by
  have h1:=ht.mem k (B4 hk h.size)
  have h2:=h.mem k hk
  exact⟨fun e=>h2.1 (h1.1 e),fun e=>(h2.2 e).elim (fun e=>(h1.2 e).elim .inl fun⟨e,_⟩=>by cases e) .inr⟩
 wf:=ht.lt
 has k b hb:=⟨((ht.mem b (h.lt hb)).2 (h.has k b hb).1).resolve_right (fun⟨e,_⟩=>by cases e),(h.has k b hb).2⟩
 one:=h.one
 wf0:=h.wf0
def Xp(obs:Nat→Bs)(k:Nat)(ob:Bs):Nat→Bs:=fun j=>if j=k then ob else obs j
theorem Yg.wr{c0 c c':EW}{E:Nat→Prop}{obs:Nat→Bs}{k:Nat}{ob ob':Bs}{wr:Bool}(h:Yg c0 E c obs)(hk:obs k=ob)(ht:Tr c ob wr c' ob'):Yg c0 E c' (Xp obs k ob') where
 os:=ht.os.trans h.os
 tape:=ht.tape.trans h.tape
 out:=ht.out.trans h.out
 size:=Ak h.size ht.size
 heap j hj hE:=(ht.heap j (B4 hj h.size) (fun _ e=>by
  subst hk
  rcases(h.has k j e).2 with h'|h'
  ·omega
  exact hE h')).trans (h.heap j hj hE)
 mem j hj:=by
  have h1:=ht.mem j (B4 hj h.size)
  have h2:=h.mem j hj
  refine⟨fun e=>h2.1 (h1.1 e),fun e=>(h2.2 e).elim (fun e=>(h1.2 e).elim .inl fun⟨_,e,_⟩=> .inr ?_) .inr⟩
  subst hk
  rcases(h.has k j e).2 with h'|h'
  ·omega
  exact h'
 wf:=ht.lt
 has j b hb:=by
  unfold Xp at hb
  by_cases hj:j=k
  ·rw[if_pos hj]at hb
   rcases ht.own with ho|⟨_,hn⟩
   ·have hb2:=hb
    rw[ho,←hk]at hb
    exact⟨((ht.mem b (h.lt hb)).2 (h.has k b hb).1).resolve_right (fun⟨_,_,e⟩=>e hb2),(h.has k b hb).2⟩
   rcases hn b hb with hb'|⟨hs,hm⟩
   ·rw[←hk]at hb'
    exact⟨((ht.mem b (h.lt hb')).2 (h.has k b hb').1).resolve_right (fun⟨_,_,e⟩=>e hb),(h.has k b hb').2⟩
   exact⟨hm,.inl (Ak h.size hs)⟩
  rw[if_neg hj]at hb
  exact⟨((ht.mem b (h.lt hb)).2 (h.has j b hb).1).resolve_right (fun⟨_,e,_⟩=>hj (h.one j k b hb (by rw[hk];exact e))),(h.has j b hb).2⟩
 one j j' b hb hb':=by
  have key: ∀ i,i≠k→obs i b→ob' b→False:=fun i hi hib hob=>by
   rcases ht.own with ho|⟨_,hn⟩
   ·exact hi (h.one i k b hib (by rw[hk,←ho];exact hob))
   rcases hn b hob with hb'|⟨hs,hm⟩
   ·exact hi (h.one i k b hib (by rw[hk];exact hb'))
   have:=h.lt hib
   omega
  unfold Xp at hb hb'
  by_cases hj:j=k<;>by_cases hj':j'=k
  ·rw[hj,hj']
  ·rw[if_pos hj]at hb;rw[if_neg hj']at hb';exact(key j' hj' hb' hb).elim
  ·rw[if_neg hj]at hb;rw[if_pos hj']at hb';exact(key j hj hb hb').elim
  rw[if_neg hj]at hb;rw[if_neg hj']at hb';exact h.one j j' b hb hb'
 wf0:=h.wf0
end region
def Kn(ops:Array Oper)(x:Oper×Ei)(y:Oper×Ei):Bool:=
 (match x.1.dst with|some d=>(y.1.looksAt ops).contains d||(match y.1.dst with|some d'=>Nat.beq d d'|none=>false)|none=>false)||
 (match y.1.dst with|some d=>(x.1.looksAt ops).contains d|none=>false)||
 (match x.2.ac,y.2.ac with
  | .no,_=>false
  |_,.no=>false
  | .rd _,.rd _=>false
  | .rd j,.wr k=>Nat.beq j k
  | .wr j,.rd k=>Nat.beq j k
  | .wr j,.wr k=>Nat.beq j k)
def kX(x:Oper×Ei)(y:Oper×Ei):Bool:=
 match x.1.dst with
 |some d=>y.2.e.D.contains d||y.2.r.D.contains d
 |none=>false
def QN(ops:Array Oper)(bf:Nat→Nat→Bool)(x:Oper×Ei)(i:Nat):Nat→List (Oper×Ei)→Bool
 |_,[]=>true
 |j,y::l=>(Nat.beq i j||((!Kn ops x y||bf i j||bf j i)&&(!kX x y||bf i j)))&&QN ops bf x i (j+1) l
def Ka(ops:Array Oper)(bf:Nat→Nat→Bool)(all:List (Oper×Ei)):Nat→List (Oper×Ei)→Bool
 |_,[]=>true
 |i,x::l=>QN ops bf x i 0 all&&Ka ops bf all (i+1) l
def Lc(n:Nat):List Oper→Bool
 |[]=>true
 |o::l=>(match o.dst with|some d=>Nat.blt d n|none=>true)&&Lc n l
theorem Lx{ops:Array Oper}{bf:Nat→Nat→Bool}{x:Oper×Ei}{i:Nat}: ∀ {j:Nat} {l:List (Oper×Ei)},QN ops bf x i j l=true→
  ∀ m y,l[m]? =some y→i≠j+m→(Kn ops x y=true→bf i (j+m)=true∨bf (j+m) i=true)∧(kX x y=true→bf i (j+m)=true)
 |_,[],_,m,y,hm,_=>by simp at hm
 |j,z::l,h,m,y,hm,hne=>by
  simp only[QN,Ao]at h
  cases m with
  |zero=>
   simp only[C2,Ah]at hm
   subst hm
   have h1:=h.1
   rw[Bx]at hne⊢
   rw[FO hne]at h1
   simp only[Bool.false_or,Ao,Bm,Cu]at h1
   exact⟨fun hc=>h1.1.elim (fun h'=>h'.elim (fun h''=>by rw[hc]at h'';cases h'') .inl) .inr,fun hc=>h1.2.resolve_left (by rw[hc];simp)⟩
  |succ m=>
   have:=Lx h.2 m y (by simpa using hm) (by omega)
   have e:j+1+m=j+(m+1):=by omega
   rw[e]at this
   exact this
theorem Lw{ops:Array Oper}{bf:Nat→Nat→Bool}{all:List (Oper×Ei)}: ∀ {i:Nat} {l:List (Oper×Ei)},Ka ops bf all i l=true→
  ∀ m x,l[m]? =some x→QN ops bf x (i+m) 0 all=true
 |_,[],_,m,x,hm=>by simp at hm
 |i,z::l,h,m,x,hm=>by
  simp only[Ka,Ao]at h
  cases m with
  |zero=>
   simp only[C2,Ah]at hm
   subst hm
   exact h.1
  |succ m=>
   have:=Lw h.2 m x (by simpa using hm)
   have e:i+1+m=i+(m+1):=by omega
   rw[e]at this
   exact this
theorem Ou{n:Nat}: ∀ {l:List Oper},Lc n l=true→ ∀ (o:Oper) (d:Nat),o∈l→o.dst=some d→d<n
 |[],_,o,d,h,_=>by simp at h
 |z::l,h,o,d,ho,hd=>by
  simp only[Lc,Ao]at h
  rcases AH.1 ho with rfl|ho
  ·have:=h.1
   rw[hd]at this
   have hb:Nat.blt d n=true:=this
   unfold Nat.blt at hb
   exact A8 hb
  exact Ou h.2 o d ho hd
theorem oa(a:Act)(d:Option Nat)(v:Value)(h: ∀ t,d=some t→t<a.tmps.size):vl (a.put d v)=Sx (vl a) d v:=by
 cases d with
 |none=>rfl
 |some d=>
  funext t
  have hd:=h d rfl
  by_cases ht:d=t
  ·subst ht
   simp[vl,Act.put,Sx,hd]
  simp[vl,Act.put,Sx,FO ht,ht]
theorem S1(a:Act)(d:Option Nat)(v:Value):(a.put d v).tmps.size=a.tmps.size:=by cases d<;>simp[Act.put]
theorem MZ(a:Act)(d:Option Nat)(v:Value):(a.put d v).defers=a.defers:=by cases d<;>rfl
theorem Pk(f:Vl)(d:Option Nat)(v:Value)(t:Nat)(h:d≠some t):Sx f d v t=f t:=by
 cases d with
 |none=>rfl
 |some d=>
  have:d≠t:=fun e=>h (by rw[e])
  simp[Sx,FO this]
theorem FK(f:Vl)(d:Nat)(v:Value):Sx f (some d) v d=v:=by simp[Sx]
section region2
variable {P:Program} {n:Nat} {ops:Array Oper} {Γ:D2} {ρ:DU} {is:List Ei} {τ:List VR}
structure ZS(n:Nat)(ops:Array Oper)(Γ:D2)(ρ:DU)(is:List Ei)(τ:List VR)(c0:EW)(E:Nat→Prop)(df:List Deferred)(L:Nat→Bool)(a:Act)(c:EW)(obs:Nat→Bs):Prop where
 size:a.tmps.size=n
 defers:a.defers=df
 facts:FH Γ c
 own:Yg c0 E c obs
 slots: ∀ t q,DA (GL ops is L ops.size) ρ t=some q→(q.at (vl a)).H (vl a t) c
 res: ∀ k r,nth (G5 ops is τ L ops.size) k=some r→(r.at (vl a)).H c (obs k)
theorem tt(bf:Nat→Nat→Bool)(hchk:Ka ops bf (ops.toList.zip is) 0 (ops.toList.zip is)=true){i j:Nat}{oi oj:Oper}{ii ij:Ei}{d:Nat}
  (hoi:ops[i]? =some oi) (hii:is[i]? =some ii) (hoj:ops[j]? =some oj) (hij:is[j]? =some ij) (hne:i≠j) (hd:oi.dst=some d) (hD:d∈ij.e.D∨d∈ij.r.D):bf i j=true:=by
 have zi:(ops.toList.zip is)[i]? =some (oi,ii):=by rw[List.getElem?_zip_eq_some];exact⟨by simpa using hoi,hii⟩
 have zj:(ops.toList.zip is)[j]? =some (oj,ij):=by rw[List.getElem?_zip_eq_some];exact⟨by simpa using hoj,hij⟩
 have h1:=Lw hchk i _ zi
 rw[Aq]at h1
 have h2:=(Lx h1 j _ zj (by omega)).2
 rw[Aq]at h2
 refine h2 ?_
 simp only[kX,hd]
 rcases hD with h|h<;>simp[h]
theorem al(bf:Nat→Nat→Bool)(hchk:Ka ops bf (ops.toList.zip is) 0 (ops.toList.zip is)=true){i j:Nat}{oi oj:Oper}{ii ij:Ei}
  (hoi:ops[i]? =some oi) (hii:is[i]? =some ii) (hoj:ops[j]? =some oj) (hij:is[j]? =some ij) (hne:i≠j) (hc:Kn ops (oi,ii) (oj,ij)=true):bf i j=true∨bf j i=true:=by
 have zi:(ops.toList.zip is)[i]? =some (oi,ii):=by rw[List.getElem?_zip_eq_some];exact⟨by simpa using hoi,hii⟩
 have zj:(ops.toList.zip is)[j]? =some (oj,ij):=by rw[List.getElem?_zip_eq_some];exact⟨by simpa using hoj,hij⟩
 have h1:=Lw hchk i _ zi
 rw[Aq]at h1
 have h2:=(Lx h1 j _ zj (by omega)).1
 rw[Aq]at h2
 exact h2 hc
theorem Hf(L:Nat→Bool)(t:Nat)(q:VE): ∀ m,DA (GL ops is L m) ρ t=some q→
  (∃ p,ρ.get t=some p∧q= .c p)∨ ∃ j o i,j<m∧L j=true∧ops[j]? =some o∧is[j]? =some i∧o.dst=some t∧q=i.e
 |0,h=>by
  simp only[GL,DA]at h
  split at h
  ·rename_i p hp;cases h;exact .inl ⟨p,hp,rfl⟩
  cases h
 |m+1,h=>by
  have up:((∃ p,ρ.get t=some p∧q= .c p)∨ ∃ j o i,j<m∧L j=true∧ops[j]? =some o∧is[j]? =some i∧o.dst=some t∧q=i.e)→
   (∃ p,ρ.get t=some p∧q= .c p)∨ ∃ j o i,j<m+1∧L j=true∧ops[j]? =some o∧is[j]? =some i∧o.dst=some t∧q=i.e:=
   fun h=>h.imp id fun⟨j,o,i,hj,r⟩=>⟨j,o,i,by omega,r⟩
  simp only[GL]at h
  split at h
  ·rename_i o i ho hi
   split at h
   ·rename_i hL
    rw[Hv]at h
    split at h
    ·rename_i hd;cases h;exact .inr ⟨m,o,i,by omega,hL,ho,hi,hd,rfl⟩
    exact up (Hf L t q m h)
   exact up (Hf L t q m h)
  exact up (Hf L t q m h)
theorem H3(L:Nat→Bool)(k:Nat)(r:VR): ∀ m,nth (G5 ops is τ L m) k=some r→
  nth τ k=some r∨ ∃ j o i,j<m∧L j=true∧ops[j]? =some o∧is[j]? =some i∧i.acc.isW k=true∧r=i.r
 |0,h=> .inl h
 |m+1,h=>by
  have up:(nth τ k=some r∨ ∃ j o i,j<m∧L j=true∧ops[j]? =some o∧is[j]? =some i∧i.acc.isW k=true∧r=i.r)→
   nth τ k=some r∨ ∃ j o i,j<m+1∧L j=true∧ops[j]? =some o∧is[j]? =some i∧i.acc.isW k=true∧r=i.r:=
   fun h=>h.imp id fun⟨j,o,i,hj,r⟩=>⟨j,o,i,by omega,r⟩
  simp only[G5]at h
  split at h
  ·rename_i o i ho hi
   split at h
   ·rename_i hL
    rw[IL]at h
    split at h
    ·rename_i hd;cases h;exact .inr ⟨m,o,i,by omega,hL,ho,hi,hd.1,rfl⟩
    exact up (H3 L k r m h)
   exact up (H3 L k r m h)
  exact up (H3 L k r m h)
def GJ(L:Nat→Bool)(i:Nat):Nat→Bool:=fun j=>Nat.beq j i||L j
theorem N5(L:Nat→Bool){i:Nat}{o:Oper}{ii:Ei}(ho:ops[i]? =some o)(hi:is[i]? =some ii)(t:Nat)
  (hlast: ∀ j oj,i<j→ops[j]? =some oj→o.dst=some t→oj.dst=some t→L j=false):
  ∀ m,i<m→DA (GL ops is (GJ L i) m) ρ t=if o.dst=some t then some ii.e else DA (GL ops is L m) ρ t
 |0,h=>by omega
 |m+1,h=>by
  by_cases hm:i=m
  ·subst hm
   simp only[GL,ho,hi]
   have hw:GJ L i i=true:=by simp[GJ]
   rw[if_pos hw,Hv]
   by_cases hd:o.dst=some t
   ·rw[if_pos hd,if_pos hd]
   rw[if_neg hd,if_neg hd]
   have e1:DA (GL ops is (GJ L i) i) ρ t=DA (GL ops is L i) ρ t:=
    Ju is t _ _ i (fun j hj oj hoj hdj=>by simp[GJ,FO (show j≠i by omega)])
   rw[e1]
   split
   ·rw[Hv,if_neg hd]
   rfl
  have ih:=N5 L ho hi t hlast m (by omega)
  have hwm:GJ L i m=L m:=by simp[GJ,FO (show m≠i by omega)]
  simp only[GL]
  split
  ·rename_i o' i' ho' hi'
   rw[hwm]
   by_cases hLm:L m=true
   ·rw[if_pos hLm,if_pos hLm,Hv,Hv,ih]
    by_cases hd':o'.dst=some t
    ·by_cases hd:o.dst=some t
     ·have:=hlast m o' (by omega) ho' hd hd'
      rw[hLm]at this;cases this
     rw[if_pos hd',if_neg hd,if_pos hd']
    rw[if_neg hd',if_neg hd']
   rw[if_neg hLm,if_neg hLm];exact ih
  exact ih
theorem Mp(L:Nat→Bool){i:Nat}{o:Oper}{ii:Ei}(ho:ops[i]? =some o)(hi:is[i]? =some ii)(k:Nat)
  (hlast: ∀ j ij,i<j→is[j]? =some ij→ii.acc.isW k=true→ij.acc.isW k=true→L j=false):
  ∀ m,i<m→nth (G5 ops is τ (GJ L i) m) k=if ii.acc.isW k=true∧k<τ.length then some ii.r else nth (G5 ops is τ L m) k
 |0,h=>by omega
 |m+1,h=>by
  by_cases hm:i=m
  ·subst hm
   simp only[G5,ho,hi]
   have hw:GJ L i i=true:=by simp[GJ]
   rw[if_pos hw,IL,Fu]
   have e1:nth (G5 ops is τ (GJ L i) i) k=nth (G5 ops is τ L i) k:=
    Kw is τ k _ _ i (fun j hj ij hij hdj=>by simp[GJ,FO (show j≠i by omega)])
   by_cases hd:ii.acc.isW k=true∧k<τ.length
   ·rw[if_pos hd,if_pos hd]
   rw[if_neg hd,if_neg hd,e1]
   split
   ·rw[IL,Fu,if_neg hd]
   rfl
  have ih:=Mp L ho hi k hlast m (by omega)
  have hwm:GJ L i m=L m:=by simp[GJ,FO (show m≠i by omega)]
  simp only[G5]
  split
  ·rename_i o' i' ho' hi'
   rw[hwm]
   by_cases hLm:L m=true
   ·rw[if_pos hLm,if_pos hLm,IL,IL,ih,Fu,Fu]
    by_cases hd':i'.acc.isW k=true∧k<τ.length
    ·by_cases hd:ii.acc.isW k=true∧k<τ.length
     ·have:=hlast m i' (by omega) hi' hd.1 hd'.1
      rw[hLm]at this;cases this
     rw[if_pos hd',if_neg hd,if_pos hd']
    rw[if_neg hd',if_neg hd']
   rw[if_neg hLm,if_neg hLm];exact ih
  exact ih
end region2
def K9(m:Nat):List Ei→Bool
 |[]=>true
 |i::l=>(match i.acc.k with|some k=>Nat.blt k m|none=>true)&&K9 m l
theorem HE{a b:Nat}(h:Nat.blt a b=true):a<b:=A8 h
theorem Pq{m:Nat}: ∀ {l:List Ei},K9 m l=true→ ∀ i k,i∈l→i.acc.k=some k→k<m
 |[],_,i,k,h,_=>by simp at h
 |z::l,h,i,k,hi,hk=>by
  simp only[K9,Ao]at h
  rcases AH.1 hi with rfl|hi
  ·have:=h.1
   rw[hk]at this
   exact HE this
  exact Pq h.2 i k hi hk
theorem Jg.isW_k{acc:Jg}{k:Nat}(h:acc.isW k=true):acc.k=some k∧acc.w=true:=by
 cases acc with
 |no=>simp[Jg.isW]at h
 |rd j=>simp[Jg.isW]at h
 |wr j=>
  have:j=k:=Bj h
  subst this
  exact⟨rfl,rfl⟩
theorem Jg.w_isW{acc:Jg}(h:acc.w=true): ∃ k,acc= .wr k:=by
 cases acc with
 |no=>simp[Jg.w]at h
 |rd j=>simp[Jg.w]at h
 |wr j=>exact⟨j,rfl⟩
section region3
variable {P:Program} {n:Nat} {ops:Array Oper} {Γ:D2} {ρ:DU} {is:List Ei} {τ:List VR} {c0:EW} {E:Nat→Prop} {df:List Deferred} {Q:Exit→Act→World→Prop}
theorem Yv{x y:Oper×Ei}{d:Nat}(hd:x.1.dst=some d)(h:d∈y.1.looksAt ops):Kn ops x y=true:=by
 simp[Kn,hd,h]
theorem dw{x y:Oper×Ei}{d:Nat}(hd:x.1.dst=some d)(h:y.1.dst=some d):Kn ops x y=true:=by
 simp[Kn,hd,h]
theorem Ei.ac_w{i:Ei}{k:Nat}(h:i.acc.isW k=true):i.ac=i.acc:=by
 unfold Ei.ac
 cases ha:i.acc with
 |rd j=>rw[ha]at h;simp[Jg.isW]at h
 |no=>cases i.q<;>rfl
 |wr j=>cases i.q<;>rfl
theorem Ei.ac_n{i:Ei}(h:i.q=none):i.ac=i.acc:=by unfold Ei.ac;rw[h]
theorem SM{x y:Oper×Ei}{k:Nat}(hx0:x.2.acc.isW k=true)(hy:y.2.ac.k=some k):Kn ops x y=true:=by
 have hx:x.2.ac.isW k=true:=by rw[Ei.ac_w hx0];exact hx0
 have hx':=Jg.isW_k hx
 cases hxa:x.2.ac with
 |no=>rw[hxa]at hx;simp[Jg.isW]at hx
 |rd j=>rw[hxa]at hx;simp[Jg.isW]at hx
 |wr j=>
  rw[hxa]at hx'
  have hj:j=k:=by simpa[Jg.k]using hx'.1
  subst hj
  cases hya:y.2.ac with
  |no=>rw[hya]at hy;simp[Jg.k]at hy
  |rd j'=>
   rw[hya]at hy
   have:j'=j:=by simpa[Jg.k]using hy
   subst this
   simp[Kn,hxa,hya]
  |wr j'=>
   rw[hya]at hy
   have:j'=j:=by simpa[Jg.k]using hy
   subst this
   simp[Kn,hxa,hya]
def cX(bf:Nat→Nat→Bool)(τ:List VR)(is:List Ei):Prop:= ∀ i ii q k,is[i]? =some ii→ii.q=some q→ii.acc= .rd k→(∀ r,nth τ k=some r→q r)∧ ∀ j ij,is[j]? =some ij→ij.acc.isW k=true→bf i j=true∨q ij.r
theorem W6 (hslots : Lc n ops.toList = true) (haccs : K9 τ.length is = true) (hτ : ∀ k r, nth τ k = some r → r.D = [])
  (bf : Nat → Nat → Bool) (hbf : ∀ x y, bf x y = true → x < y) (hchk : Ka ops bf (ops.toList.zip is) 0 (ops.toList.zip is) = true) (hlen : is.length = ops.size)
  {i : Nat} {o : Oper} {ii : Ei} (hoi : ops[i]? = some o) (hii : is[i]? = some ii)
  (hop : uj P n ops Γ ρ (GL ops is (fun _ => true) i) (G5 ops is τ (fun _ => true) i) o ii) (hrs : cX bf τ is)
  {L : Nat → Bool} {a : Act} {c : EW} {obs : Nat → Bs} (hI : ZS n ops Γ ρ is τ c0 E df L a c obs) (hLi : L i = false)
  (hb : ∀ j, bf j i = true → L j = true) (hf : ∀ j, bf i j = true → L j = false)
  {K : Act → World → Prop} (hK : ∀ a' c' obs', ZS n ops Γ ρ is τ c0 E df (GJ L i) a' c' obs' → K a' c'.w) : wpOp P ops Q i K a c.w := by
 have hiN : i < ops.size := (BA.1 hoi).1
 have hinfo : ∀ j, j < ops.size → ∃ ij, is[j]? = some ij := fun j hj => ⟨is[j]'(by omega), Ag (by omega)⟩
 have hoper : ∀ j ij, is[j]? = some ij → ∃ oj, ops[j]? = some oj := fun j ij hj => by
  have : j < is.length := (AU.1 hj).1
  exact ⟨ops[j]'(by omega), Ce (by omega)⟩
 -- the order of two that Kn
 have ord : ∀ j oj ij, ops[j]? = some oj → is[j]? = some ij → (Kn ops (oj, ij) (o, ii) = true ∨ Kn ops (o, ii) (oj, ij) = true) → j ≠ i → L j = decide (j < i) := fun j oj ij ho1 hi1 hc hne => by
  have h1 : bf j i = true ∨ bf i j = true := by
   rcases hc with hc | hc
   ·exact al bf hchk ho1 hi1 hoi hii hne hc
   exact (al bf hchk hoi hii ho1 hi1 (Ne.symm hne) hc).symm
  rcases h1 with h1 | h1
  ·rw [hb j h1, decide_eq_true (hbf _ _ h1)]
  have := hbf _ _ h1
  rw [hf j h1, decide_eq_false (by omega)]
 have hdst : ∀ t, o.dst = some t → t < a.tmps.size := fun t ht => by
  rw [hI.size]
  exact Ou hslots o t (by rw [Array.mem_toList_iff]; exact Array.mem_of_getElem? hoi) ht
 -- the slots that are looked at
 have hreads : ∀ t, t ∈ o.looksAt ops → ∀ q, DA (GL ops is (fun _ => true) i) ρ t = some q → (q.at (vl a)).H (vl a t) c := fun t ht q hq => by
  refine hI.slots t q ?_
  rw [← hq]
  rw [Ju is t L (fun j => decide (j < i)) ops.size (fun j hj oj hoj hdj => by
   by_cases hji : j = i
   ·subst hji; rw [hLi]; simp
   obtain ⟨ij, hij⟩ := hinfo j hj
   exact ord j oj ij hoj hij (.inl (Yv hdj ht)) hji)]
  rw [QV is _ i ops.size (by omega) (fun j hj => by simp; omega)]
  exact Ju is t _ _ i (fun j hj _ _ _ => by simp [hj])
 have hnth : ii.q = none → ∀ k, ii.acc.k = some k → nth (G5 ops is τ L ops.size) k = nth (G5 ops is τ (fun _ => true) i) k := fun hqn k hk => by
  rw [Kw is τ k L (fun j => decide (j < i)) ops.size (fun j hj ij hij hw => by
   by_cases hji : j = i
   ·subst hji; rw [hLi]; simp
   obtain ⟨oj, hoj⟩ := hoper j ij hij
   exact ord j oj ij hoj hij (.inl (SM hw (by rw [Ei.ac_n hqn]; exact hk))) hji)]
  rw [RS is τ _ i ops.size (by omega) (fun j hj => by simp; omega)]
  exact Kw is τ k _ _ i (fun j hj _ _ _ => by simp [hj])
 have hkl : ∀ k, ii.acc.k = some k → k < τ.length := fun k hk => Pq haccs ii k (Bh hii) hk
 -- the resource that is touched
 obtain ⟨ob, hob⟩ : ∃ ob : Bs, (∀ k, ii.acc.k = some k → ob = obs k) ∧ (ii.acc.k = none → ob = Ix) := by
  cases hk : ii.acc.k with
  | none => exact ⟨Ix, fun k h => (by cases h), fun _ => rfl⟩
  | some k => exact ⟨obs k, fun k' h => (by cases h; rfl), fun h => (by cases h)⟩
 have hres : ∀ k, ii.acc.k = some k → ∃ r, nth (G5 ops is τ L ops.size) k = some r ∧ (r.at (vl a)).H c ob := fun k hk => by
  rw [hob.1 k hk]
  have hl : k < (G5 ops is τ L ops.size).length := by rw [Fu]; exact hkl k hk
  refine ⟨(G5 ops is τ L ops.size)[k], by rw [Dq]; exact Ag hl, hI.res k _ (by rw [Dq]; exact Ag hl)⟩
 have hown : ∀ b, ob b → c.M b ∧ b < c.w.heap.size := fun b hb' => by
  cases hk : ii.acc.k with
  | none => rw [hob.2 hk] at hb'; cases hb'
  | some k => rw [hob.1 k hk] at hb'; exact ⟨(hI.own.has k b hb').1, hI.own.lt hb'⟩
 -- what the others' predicates name is not written
 have keepE : ∀ t q v, DA (GL ops is L ops.size) ρ t = some q → q.at (Sx (vl a) o.dst v) = q.at (vl a) := fun t q v hq => by
  rcases Hf L t q ops.size hq with ⟨p, _, rfl⟩ | ⟨j, oj, ij, hj, hLj, hoj, hij, _, rfl⟩
  ·rfl
  refine ij.e.congr _ _ fun d hd => Pk _ _ _ _ fun hod => ?_
  have hne : i ≠ j := fun e => by subst e; rw [hLi] at hLj; cases hLj
  have := hf j (tt bf hchk hoi hii hoj hij hne hod (.inl hd))
  rw [hLj] at this; cases this
 have keepR : ∀ k r v, nth (G5 ops is τ L ops.size) k = some r → r.at (Sx (vl a) o.dst v) = r.at (vl a) := fun k r v hr => by
  rcases H3 L k r ops.size hr with h0 | ⟨j, oj, ij, hj, hLj, hoj, hij, _, rfl⟩
  ·exact r.congr _ _ fun d hd => by rw [hτ k r h0] at hd; simp at hd
  refine ij.r.congr _ _ fun d hd => Pk _ _ _ _ fun hod => ?_
  have hne : i ≠ j := fun e => by subst e; rw [hLi] at hLj; cases hLj
  have := hf j (tt bf hchk hoi hii hoj hij hne hod (.inr hd))
  rw [hLj] at this; cases this
 have hlastE : ∀ t j oj, i < j → ops[j]? = some oj → o.dst = some t → oj.dst = some t → L j = false := fun t j oj hij' hoj hd hdj => by
  obtain ⟨ij, hij⟩ := hinfo j (BA.1 hoj).1
  rw [ord j oj ij hoj hij (.inl (dw hdj hd)) (by omega), decide_eq_false (by omega)]
 have hlastR : ∀ k j ij, i < j → is[j]? = some ij → ii.acc.isW k = true → ij.acc.isW k = true → L j = false := fun k j ij hij' hij hw hwj => by
  obtain ⟨oj, hoj⟩ := hoper j ij hij
  rw [ord j oj ij hoj hij (.inl (SM hwj (by rw [Ei.ac_w hw]; exact (Jg.isW_k hw).1))) (by omega), decide_eq_false (by omega)]
 have hmain : if Region.wanted o (yielded ops a.tmps) then
   GP P o a c.w fun v w' => ∃ c' ob', c'.w = w' ∧ Tr c ob ii.acc.w c' ob' ∧ (ii.e.at (Sx (vl a) o.dst v)).H v c' ∧ (ii.acc.w = true → (ii.r.at (Sx (vl a) o.dst v)).H c' ob')
  else ii.acc.w = false ∧ (ii.e.at (Sx (vl a) o.dst undef)).H undef c := by
  cases hq : ii.q with
  | none =>
   refine hop.1 hq a c ob hI.size hI.own.wf hI.facts hreads (fun k hk => ?_) hob.2 hown
   rw [← hnth hq k hk]
   exact hres k hk
  | some q =>
   obtain ⟨k, hk, hop'⟩ := hop.2 q hq
   obtain ⟨h1, h2⟩ := hrs i ii q k hii hq hk
   obtain ⟨r, hr1, hr2⟩ := hres k (by rw [hk]; rfl)
   have hqr : q r := by
    rcases H3 L k r ops.size hr1 with h0 | ⟨j, oj, ij, hj, hLj, hoj, hij, hw, rfl⟩
    ·exact h1 r h0
    rcases h2 j ij hij hw with h3 | h3
    ·rw [hf j h3] at hLj; cases hLj
    exact h3
   have := hop' (G5 ops is τ L ops.size) ⟨r, hr1, hqr⟩ a c ob hI.size hI.own.wf hI.facts hreads (fun k' hk' => by
    have e : k' = k := by simpa [Jg.k] using hk'.symm
    subst e
    exact ⟨r, hr1, hr2⟩) (fun h => by cases h) hown
   rw [hk]
   exact this
 unfold wpOp
 simp only [hoi]
 by_cases hw : Region.wanted o (yielded ops a.tmps) = true
 ·rw [if_pos hw] at hmain
  simp only [hw, if_true]
  refine .inl (hmain.wp fun v w' hv => ?_)
  obtain ⟨c', ob', hcw, htr, he, hr'⟩ := hv
  subst hcw
  have hle : Le c c' := htr.le fun b hb' => (hown b hb').1
  have hvl : vl (a.put o.dst v) = Sx (vl a) o.dst v := oa a o.dst v hdst
  have slotsNew : ∀ t q, DA (GL ops is (GJ L i) ops.size) ρ t = some q → (q.at (vl (a.put o.dst v))).H (vl (a.put o.dst v) t) c' := fun t q hq => by
   rw [N5 L hoi hii t (fun j oj hj hoj hd hdj => hlastE t j oj hj hoj hd hdj) ops.size hiN] at hq
   rw [hvl]
   split at hq
   ·rename_i hd
    cases hq
    rw [hd] at he ⊢
    rw [FK]; exact he
   rename_i hd
   rw [keepE t q v hq, Pk _ _ _ _ hd]
   exact (q.at (vl a)).st _ c c' hle (hI.slots t q hq)
  by_cases haw : ii.acc.w = true
  ·obtain ⟨k, hk⟩ := Jg.w_isW haw
   have hkk : ii.acc.k = some k := by rw [hk]; rfl
   refine hK (a.put o.dst v) c' (Xp obs k ob') ⟨by rw [S1, hI.size], by rw [MZ, hI.defers], hI.facts.le hle, hI.own.wr (hob.1 k hkk).symm htr, slotsNew, ?_⟩
   intro k' r hr
   rw [Mp L hoi hii k' (fun j ij hj hij h1 h2 => hlastR k' j ij hj hij h1 h2) ops.size hiN] at hr
   rw [hvl]
   split at hr
   ·rename_i hd
    cases hr
    have : k' = k := by
     have := (Jg.isW_k hd.1).1
     rw [hkk] at this
     cases this; rfl
    subst this
    simp only [Xp, if_true]
    exact hr' haw
   rename_i hd
   have hkl' : k' < τ.length := by
    have : k' < (G5 ops is τ L ops.size).length := by
     rw [Dq] at hr
     exact (AU.1 hr).1
    rwa [Fu] at this
   have hne : k' ≠ k := fun e => hd ⟨by rw [hk, e]; simp [Jg.isW], hkl'⟩
   simp only [Xp, if_neg hne]
   rw [keepR k' r v hr]
   refine (r.at (vl a)).fr c c' (obs k') hle (fun b hb' => htr.heap b (hI.own.lt hb') fun _ e => hne ?_) (hI.res k' r hr)
   rw [hob.1 k hkk] at e
   exact hI.own.one k' k b hb' e
  have haw' : ii.acc.w = false := by simpa using haw
  rw [haw'] at htr
  refine hK (a.put o.dst v) c' obs ⟨by rw [S1, hI.size], by rw [MZ, hI.defers], hI.facts.le hle, hI.own.no htr, slotsNew, ?_⟩
  intro k' r hr
  rw [Mp L hoi hii k' (fun j ij hj hij h1 h2 => hlastR k' j ij hj hij h1 h2) ops.size hiN] at hr
  rw [hvl]
  split at hr
  ·rename_i hd
   have := (Jg.isW_k hd.1).2
   rw [haw'] at this; cases this
  rw [keepR k' r v hr]
  exact (r.at (vl a)).fr c c' (obs k') hle (fun b hb' => htr.heap b (hI.own.lt hb') (by simp)) (hI.res k' r hr)
 rw [if_neg hw] at hmain
 simp only [hw, if_false, Cs]
 have hvl : vl (a.put o.dst undef) = Sx (vl a) o.dst undef := oa a o.dst undef hdst
 refine hK (a.put o.dst undef) c obs ⟨by rw [S1, hI.size], by rw [MZ, hI.defers], hI.facts, hI.own, ?_, ?_⟩
 ·intro t q hq
  rw [N5 L hoi hii t (fun j oj hj hoj hd hdj => hlastE t j oj hj hoj hd hdj) ops.size hiN] at hq
  rw [hvl]
  split at hq
  ·rename_i hd
   cases hq
   have he := hmain.2
   rw [hd] at he ⊢
   rw [FK]; exact he
  rename_i hd
  rw [keepE t q undef hq, Pk _ _ _ _ hd]
  exact hI.slots t q hq
 intro k' r hr
 rw [Mp L hoi hii k' (fun j ij hj hij h1 h2 => hlastR k' j ij hj hij h1 h2) ops.size hiN] at hr
 rw [hvl]
 split at hr
 ·rename_i hd
  have := (Jg.isW_k hd.1).2
  rw [hmain.1] at this; cases this
 rw [keepR k' r undef hr]
 exact hI.res k' r hr
def Fin(n:Nat)(Γ:D2)(ρ:DU)(c0:EW)(E:Nat→Prop)(df:List Deferred)(δ:DK)(τ':List VR)(a:Act)(c:EW):Prop:=
 a.tmps.size=n∧a.defers=df∧FH Γ c∧(∀ t q,DA δ ρ t=some q→(q.at (vl a)).H (vl a t) c)∧ ∃ obs,Yg c0 E c obs∧ ∀ k r,nth τ' k=some r→(r.at (vl a)).H c (obs k)
theorem ZS.fin{δ:DK}{τ':List VR}(hδ:δ=GL ops is (fun _=>true) ops.size)(hτ':τ'=G5 ops is τ (fun _=>true) ops.size){L:Nat→Bool}(hL: ∀ j,j<ops.size→L j=true)
  {a:Act} {c:EW} {obs:Nat→Bs} (h:ZS n ops Γ ρ is τ c0 E df L a c obs):Fin n Γ ρ c0 E df δ τ' a c:=by
 refine⟨h.size,h.defers,h.facts,fun t q hq=>h.slots t q ?_,obs,h.own,fun k r hr=>h.res k r ?_⟩
 ·rw[←hq,hδ]
  exact Ju is t _ _ _ fun j hj _ _ _=>hL j hj
 rw[←hr,hτ']
 exact Kw is τ k _ _ _ fun j hj _ _ _=>hL j hj
theorem ZS.start{a:Act}{c:EW}{obs:Nat→Bs}(hs:a.tmps.size=n)(hd:a.defers=df)(hf:FH Γ c)(he:EH ρ (vl a) c)(ho:Yg c0 E c obs)(hτ: ∀ k r,nth τ k=some r→(r.at (vl a)).H c (obs k)):
  ZS n ops Γ ρ is τ c0 E df (fun _=>false) a c obs:=by
 refine⟨hs,hd,hf,ho,fun t q hq=>?_,fun k r hr=>?_⟩
 ·rcases Hf _ t q ops.size hq with ⟨p,hp,rfl⟩|⟨j,oj,ij,hj,hLj,_⟩
  ·exact he t p hp
  cases hLj
 rcases H3 _ k r ops.size hr with h0|⟨j,oj,ij,hj,hLj,_⟩
 ·exact hτ k r h0
 cases hLj
def kY:List Ei→Bool
 |[]=>true
 |i::l=>i.q.isNone&&kY l
theorem Um{bf:Nat→Nat→Bool}{τ:List VR}: ∀ {is:List Ei},kY is=true→cX bf τ is:=fun{is} h i ii q k hi hq _=>by
 have key: ∀ (l:List Ei),kY l=true→ ∀ x,x∈l→x.q=none:=by
  intro l
  induction l with
  |nil=>intro _ x hx;cases hx
  |cons y l ih=>
   intro hl x hx
   simp only[kY,Ao]at hl
   rcases AH.1 hx with rfl|hx
   ·simpa using hl.1
   exact ih hl.2 x hx
 rw[key is h ii (Bh hi)]at hq
 cases hq
theorem Zq(hslots:Lc n ops.toList=true)(haccs:K9 τ.length is=true)(hτ: ∀ k r,nth τ k=some r→r.D=[])
  (hchk:Ka ops (fun i j=>Nat.blt i j) (ops.toList.zip is) 0 (ops.toList.zip is)=true) (hlen:is.length=ops.size)
  (hops: ∀ i o ii,ops[i]? =some o→is[i]? =some ii→uj P n ops Γ ρ (GL ops is (fun _=>true) i) (G5 ops is τ (fun _=>true) i) o ii) (hrs:cX (fun i j=>Nat.blt i j) τ is)
  (hQ: ∀ a c obs,ZS n ops Γ ρ is τ c0 E df (fun j=>decide (j<ops.size)) a c obs→Q .normal a c.w):
  ∀ (m i:Nat),i+m=ops.size→ ∀ a c obs,ZS n ops Γ ρ is τ c0 E df (fun j=>decide (j<i)) a c obs→wpOps P ops Q (List.range' i m) a c.w
 |0,i,him,a,c,obs,h=>by
  have:i=ops.size:=by omega
  subst this
  exact hQ a c obs h
 |m+1,i,him,a,c,obs,h=>by
  rw[List.range'_succ,wpOps_cons]
  have hi:i<ops.size:=by omega
  have hoi:ops[i]? =some ops[i]:=Ce hi
  have hii:is[i]? =some (is[i]'(by omega)):=Ag (by omega)
  refine W6 hslots haccs hτ (fun i j=>Nat.blt i j) (fun x y h=>HE h) hchk hlen hoi hii (hops i _ _ hoi hii) hrs h (by simp) (fun j hj=>by simpa using HE hj) (fun j hj=>by have:=HE hj;simp;omega) ?_
  intro a' c' obs' h'
  refine Zq hslots haccs hτ hchk hlen hops hrs hQ m (i+1) (by omega) a' c' obs' ?_
  have e:GJ (fun j=>decide (j<i)) i=fun j=>decide (j<i+1):=by
   funext j
   simp only[GJ]
   by_cases hj:j=i
   ·subst hj;simp
   rw[FO hj,Bool.false_or]
   have:j<i↔j<i+1:=by omega
   simp[this]
  rw[e]at h'
  exact h'
def iw(anc:List (List Nat))(j:Nat):List Nat:=(nth anc j).getD []
def PP(anc:List (List Nat))(i j:Nat):Bool:=(iw anc j).contains i
def OM(anc:List (List Nat))(o:Oper)(j:Nat):Bool:=
 o.after.toList.all (fun e=> !Region.binds .any e||Nat.blt e.on j)&&
 (iw anc j).all fun i=>Nat.blt i j&&o.after.toList.any fun e=>Region.binds .any e&&(Nat.beq e.on i||PP anc i e.on)
def Vu(anc:List (List Nat)):Nat→List Oper→Bool
 |_,[]=>true
 |j,o::l=>OM anc o j&&Vu anc (j+1) l
theorem QE{anc:List (List Nat)}: ∀ {j:Nat} {l:List Oper},Vu anc j l=true→ ∀ m o,l[m]? =some o→OM anc o (j+m)=true
 |_,[],_,m,o,hm=>by simp at hm
 |j,z::l,h,m,o,hm=>by
  simp only[Vu,Ao]at h
  cases m with
  |zero=>
   simp only[C2,Ah]at hm
   subst hm
   exact h.1
  |succ m=>
   have:=QE h.2 m o (by simpa using hm)
   have e:j+1+m=j+(m+1):=by omega
   rw[e]at this
   exact this
def left(N:Nat)(L:Nat→Bool):Nat:=((List.range N).filter fun j=> !L j).length
theorem qo{N i:Nat}{L L':Nat→Bool}(hi:i<N)(h:L i=false)(h':L' i=true)(hs: ∀ j,L j=true→L' j=true):left N L'<left N L:=by
 have key: ∀ l:List Nat,(l.filter fun j=> !L' j).length≤(l.filter fun j=> !L j).length∧(i∈l→(l.filter fun j=> !L' j).length<(l.filter fun j=> !L j).length):=by
  intro l
  induction l with
  |nil=>exact⟨A5 _,fun h=>by simp at h⟩
  |cons x l ih=>
   simp only[List.filter_cons]
   by_cases hx:L x=true
   ·have hx':=hs x hx
    simp only[hx,hx',Bool.not_true,Cs,if_false]
    refine⟨ih.1,fun hm=>ih.2 ?_⟩
    rcases AH.1 hm with rfl|hm
    ·rw[h]at hx;cases hx
    exact hm
   have hx0:L x=false:=by simpa using hx
   by_cases hx':L' x=true
   ·simp only[hx0,hx',Bool.not_true,Bool.not_false,Cs,if_false,if_true,AG]
    exact⟨Nat.le_succ_of_le ih.1,fun _=>Nat.lt_succ_of_le ih.1⟩
   have hx1:L' x=false:=by simpa using hx'
   simp only[hx0,hx1,Bool.not_false,if_true,AG]
   refine⟨Nat.succ_le_succ ih.1,fun hm=>Nat.succ_lt_succ (ih.2 ?_)⟩
   rcases AH.1 hm with rfl|hm
   ·rw[h']at hx1;cases hx1
   exact hm
 exact(key (List.range N)).2 (by simpa using hi)
theorem iy(hslots:Lc n ops.toList=true)(haccs:K9 τ.length is=true)(hτ: ∀ k r,nth τ k=some r→r.D=[])
  (anc:List (List Nat)) (hanc:Vu anc 0 ops.toList=true) (hchk:Ka ops (PP anc) (ops.toList.zip is) 0 (ops.toList.zip is)=true) (hlen:is.length=ops.size) (hal:anc.length=ops.size)
  (hops: ∀ i o ii,ops[i]? =some o→is[i]? =some ii→uj P n ops Γ ρ (GL ops is (fun _=>true) i) (G5 ops is τ (fun _=>true) i) o ii) (hrs:cX (PP anc) τ is)
  (hQ: ∀ L a c obs,(∀ j,j<ops.size→L j=true)→ZS n ops Γ ρ is τ c0 E df L a c obs→Q .normal a c.w):
  ∀ (fuel:Nat) (listed:Array Bool) (a:Act) (c:EW) (obs:Nat→Bs),listed.size=ops.size→left ops.size (fun j=>listed.getD j false)≤fuel→
   (∀ j,listed.getD j false=true→ ∀ i,PP anc i j=true→listed.getD i false=true)→
   ZS n ops Γ ρ is τ c0 E df (fun j=>listed.getD j false) a c obs→wpAny P .any ops Q fuel listed a c.w:=by
 have hrow: ∀ j o,ops[j]? =some o→OM anc o j=true:=fun j o ho=>by
  have:=QE hanc j o (by simpa using ho)
  rwa [Aq]at this
 have hbf: ∀ x y,PP anc x y=true→x<y:=fun x y h=>by
  by_cases hy:y<ops.size
  ·have:=hrow y _ (Ce hy)
   simp only[OM,Ao,B1]at this
   have h2:=this.2 x (by simpa[PP]using h)
   exact HE h2.1
  have:nth anc y=none:=by rw[Dq];exact AT (by omega)
  simp[PP,iw,this]at h
 have full: ∀ listed:Array Bool,listed.size=ops.size→Region.ready .any ops listed=[]→ ∀ j,j<ops.size→listed.getD j false=true:=by
  intro listed hsz hr j
  induction j using Nat.strongRecOn with
  |_ j ih=>
   intro hj
   cases hl:listed.getD j false
   ·have:j∈Region.ready .any ops listed:=by
     rw[mem_ready]
     refine⟨?_,_,Ce hj,fun e he hb=>?_⟩
     ·have hjl:j<listed.size:=by omega
      simpa[hjl]using hl
     have h1:=hrow j _ (Ce hj)
     simp only[OM,Ao,B1,Bm,Cu]at h1
     have h2:=(h1.1 e (Array.mem_toList_iff.2 he)).resolve_left (by rw[hb];simp)
     have h3:=HE h2
     exact ih e.on h3 (by omega)
    rw[hr]at this;cases this
   rfl
 intro fuel
 induction fuel with
 |zero=>
  intro listed a c obs hsz hleft hcl hI
  have hall: ∀ j,j<ops.size→listed.getD j false=true:=fun j hj=>by
   cases hl:listed.getD j false
   ·have hm:j∈(List.range ops.size).filter fun j=> !listed.getD j false:=by
     rw[List.mem_filter]
     exact⟨by simpa using hj,by rw[hl];rfl⟩
    have h0:((List.range ops.size).filter fun j=> !listed.getD j false).length=0:=Nat.le_zero.1 hleft
    rw[BC]at h0
    rw[h0]at hm;cases hm
   rfl
  refine⟨?_,hQ _ a c obs hall hI⟩
  cases hr:Region.ready .any ops listed with
  |nil=>rfl
  |cons x l=>
   have hx:x∈Region.ready .any ops listed:=by rw[hr];simp
   rw[mem_ready]at hx
   obtain⟨h0,o,ho,_⟩:=hx
   have hxs:x<ops.size:=(BA.1 ho).1
   have:=hall x hxs
   have hxl:x<listed.size:=by omega
   simp[hxl]at h0 this
   rw[this]at h0;cases h0
 |succ fuel ih=>
  intro listed a c obs hsz hleft hcl hI
  refine⟨fun hr=>hQ _ a c obs (full listed hsz hr) hI,fun i hi=>?_⟩
  rw[mem_ready]at hi
  obtain⟨h0,o,ho,hall⟩:=hi
  have hiN:i<ops.size:=(BA.1 ho).1
  have hil:i<listed.size:=by omega
  have hLi:listed.getD i false=false:=by simpa[hil]using h0
  have hii:is[i]? =some (is[i]'(by omega)):=Ag (by omega)
  have hset:(fun j=>(listed.setIfInBounds i true).getD j false)=GJ (fun j=>listed.getD j false) i:=by
   funext j
   by_cases hj:j=i
   ·subst hj;simp[GJ,hil]
   rw[getD_set_ne false (Ne.symm hj)]
   simp[GJ,FO hj]
  have hdeps: ∀ j,PP anc j i=true→listed.getD j false=true:=fun j hj=>by
   have h1:=hrow i o ho
   simp only[OM,Ao,B1]at h1
   have h2:=h1.2 j (by simpa[PP]using hj)
   rw[List.any_eq_true]at h2
   obtain⟨_,e,hm,h3⟩:=h2
   simp only[Ao,Bm]at h3
   have h4:=hall e (Array.mem_toList_iff.1 hm) h3.1
   rcases h3.2 with h5|h5
   ·rw[Bj h5]at h4;exact h4
   exact hcl _ h4 j h5
  refine W6 hslots haccs hτ (PP anc) hbf hchk hlen ho hii (hops i _ _ ho hii) hrs hI hLi hdeps (fun j hj=>?_) ?_
  ·cases hl:listed.getD j false
   ·rfl
   have:=hcl j hl i hj
   rw[hLi]at this;cases this
  intro a' c' obs' h'
  refine ih (listed.setIfInBounds i true) a' c' obs' (by simpa using hsz) ?_ ?_ (by rw[hset];exact h')
  ·rw[hset]
   have:=qo (N:=ops.size) (L:=fun j=>listed.getD j false) (L':=GJ (fun j=>listed.getD j false) i) hiN hLi (by simp[GJ]) (fun j hj=>by simp only[GJ,hj,Bool.or_true])
   omega
  intro j hj k hk
  by_cases hji:j=i
  ·subst hji
   exact getD_set_true (hdeps k hk)
  rw[getD_set_ne false (Ne.symm hji)]at hj
  exact getD_set_true (hcl j hj k hk)
end region3
structure Cx where
 P:Program
 n:Nat
 c0:EW
 E:Nat→Prop
 df:List Deferred
structure St(X:Cx)(Γ:D2)(ρ:DU)(σ:List Res)(a:Act)(c:EW):Prop where
 size:a.tmps.size=X.n
 defers:a.defers=X.df
 facts:FH Γ c
 env:EH ρ (vl a) c
 own: ∃ obs,Yg X.c0 X.E c obs∧ ∀ k r,nth σ k=some r→r.H c (obs k)
def JN(X:Cx)(Γ:D2)(ρ:DU)(σ:List Res)(K:Act→World→Prop):Prop:= ∀ a c,St X Γ ρ σ a c→K a c.w
def J(X:Cx)(Γ:D2)(ρ:DU)(σ:List Res)(k:Code)(Q:Exit→Act→World→Prop):Prop:= ∀ a c,St X Γ ρ σ a c→k.wp X.P Q a c.w
def FC(σ:List Res):List VR:=σ.map VR.c
theorem Hy(σ:List Res)(k:Nat):nth (FC σ) k=(nth σ k).map VR.c:=by simp[FC,Dq]
def EX(g:Vl):Option VR→Option Res
 |some (.c r)=>some r
 |some (.d _ q _)=>some (q g)
 |none=>none
theorem Rc(g:Vl)(o:Option VR):EX g o=o.map (·.at g):=by cases o with|none=>rfl|some r=>cases r<;>rfl
def Fy(g:Vl)(Γ:D2)(δ:DK)(ρ ρ':DU):Prop:= ∀ t p,ρ'.get t=some p→ ∃ q,Et g δ ρ t=some q∧ ∀ v c,FH Γ c→q.H v c→p.H v c
theorem Fy.nil{g:Vl}{Γ:D2}{δ:DK}{ρ:DU}:Fy g Γ δ ρ []:=fun t p h=>by simp[DU.get]at h
theorem Fy.sub{g:Vl}{Γ:D2}{δ:DK}{ρ ρ':DU}{t:Nat}{q p:SP}(h:Et g δ ρ t=some q)(hs: ∀ v c,FH Γ c→q.H v c→p.H v c)(hr:Fy g Γ δ ρ ρ'):Fy g Γ δ ρ ((t,p)::ρ'):=by
 intro t' p' h'
 by_cases ht:t=t'
 ·subst ht
  simp[DU.get]at h'
  subst h'
  exact⟨q,h,hs⟩
 simp[DU.get,FO ht]at h'
 exact hr t' p' h'
theorem Fy.cons{g:Vl}{Γ:D2}{δ:DK}{ρ ρ':DU}(t:Nat){p:SP}(h:Et g δ ρ t=some p)(hr:Fy g Γ δ ρ ρ'):Fy g Γ δ ρ ((t,p)::ρ'):= .sub h (fun _ _ _ h=>h) hr
theorem Fy.k{g:Vl}{Γ:D2}{δ:DK}{ρ ρ':DU}(t:Nat){p:SP}(h:Et g δ ρ t=some p)(hr:Fy g Γ δ ρ ρ'):Fy g Γ δ ρ ((t,p)::ρ'):= .sub h (fun _ _ _ h=>h) hr
inductive GE(g:Vl)(τ:List VR):List Nat→List Res→Prop where
 |nil:GE g τ [] []
 |sub (k:Nat) {q r:Res} {ks:List Nat} {σ:List Res} (h:EX g (nth τ k)=some q) (hs: ∀ c ob,q.H c ob→r.H c ob) (hr:GE g τ ks σ):GE g τ (k::ks) (r::σ)
theorem GE.cons{g:Vl}{τ:List VR}(k:Nat){q:Res}{ks:List Nat}{σ:List Res}(h:EX g (nth τ k)=some q)(hr:GE g τ ks σ):GE g τ (k::ks) (q::σ):= .sub k h (fun _ _ h=>h) hr
theorem GE.k{g:Vl}{τ:List VR}(k:Nat){q:Res}{ks:List Nat}{σ:List Res}(h:EX g (nth τ k)=some q)(hr:GE g τ ks σ):GE g τ (k::ks) (q::σ):= .sub k h (fun _ _ h=>h) hr
theorem GE.spec{g:Vl}{τ:List VR}{ks:List Nat}{σ:List Res}(h:GE g τ ks σ): ∀ j r,nth σ j=some r→ ∃ k q,nth ks j=some k∧EX g (nth τ k)=some q∧ ∀ c ob,q.H c ob→r.H c ob:=by
 induction h with
 |nil=>intro j r h;simp[nth]at h
 | @sub k q r ks σ h hs hr ih=>
  intro j r' hj
  cases j with
  |zero=>simp only[nth,Ah]at hj;subst hj;exact⟨k,q,rfl,h,hs⟩
  |succ j=>exact ih j r' hj
def Fx:List Nat→Bool
 |[]=>true
 |x::l=> !l.contains x&&Fx l
theorem PA: ∀ {l:List Nat},Fx l=true→ ∀ i j k,nth l i=some k→nth l j=some k→i=j
 |[],_,i,j,k,h,_=>by simp[nth]at h
 |x::l,h,i,j,k,hi,hj=>by
  simp only[Fx,Ao,Cu]at h
  have hx: ∀ m,nth l m≠some x:=fun m hm=>by
   rw[Dq]at hm
   have:=Bh hm
   have h1:=h.1
   simp at h1
   exact h1 this
  cases i with
  |zero=>
   cases j with
   |zero=>rfl
   |succ j=>simp only[nth,Ah]at hi;subst hi;exact(hx j hj).elim
  |succ i=>
   cases j with
   |zero=>simp only[nth,Ah]at hj;subst hj;exact(hx i hi).elim
   |succ j=>rw[PA h.2 i j k hi hj]
def Oa(obs:Nat→Bs)(ks:List Nat):Nat→Bs:=fun j=>((nth ks j).map obs).getD Ix
theorem Yg.pick{c0 c:EW}{E:Nat→Prop}{obs:Nat→Bs}(h:Yg c0 E c obs){ks:List Nat}(hk:Fx ks=true):Yg c0 E c (Oa obs ks) where
 os:=h.os
 tape:=h.tape
 out:=h.out
 size:=h.size
 heap:=h.heap
 mem:=h.mem
 wf:=h.wf
 has j b hb:=by
  unfold Oa at hb
  cases hj:nth ks j with
  |none=>rw[hj]at hb;cases hb
  |some k=>rw[hj]at hb;exact h.has k b hb
 one i j b hi hj:=by
  unfold Oa at hi hj
  cases ei:nth ks i with
  |none=>rw[ei]at hi;cases hi
  |some k=>
   cases ej:nth ks j with
   |none=>rw[ej]at hj;cases hj
   |some k'=>
    rw[ei]at hi
    rw[ej]at hj
    have:k=k':=h.one k k' b hi hj
    subst this
    exact PA hk i j k ei ej
 wf0:=h.wf0
def Next(X:Cx)(Γ:D2)(ρ:DU)(δ:DK)(τ:List VR)(g:Vl)(K:Act→World→Prop):Prop:=
 ∃ ρ' σ' ks,Fx ks=true∧Fy g Γ δ ρ ρ'∧GE g τ ks σ'∧JN X Γ ρ' σ' K
theorem Fin.next{X:Cx}{Γ:D2}{ρ:DU}{δ:DK}{τ:List VR}{a:Act}{c:EW}{K:Act→World→Prop}(h:Fin X.n Γ ρ X.c0 X.E X.df δ τ a c)(hn: ∀ g,Next X Γ ρ δ τ g K):K a c.w:=by
 obtain⟨h1,h2,h3,h4,obs,h5,h6⟩:=h
 obtain⟨ρ',σ',ks,hk,hE,hR,hJ⟩:=hn (vl a)
 refine hJ a c ⟨h1,h2,h3,fun t p hp=>?_,Oa obs ks,h5.pick hk,fun j r hr=>?_⟩
 ·obtain⟨q,hq,hs⟩:=hE t p hp
  rw[aQ]at hq
  cases hv:DA δ ρ t with
  |none=>rw[hv]at hq;cases hq
  |some e=>
   rw[hv]at hq
   cases hq
   exact hs _ _ h3 (h4 t e hv)
 obtain⟨k,q,hkj,hq,hs⟩:=hR.spec j r hr
 rw[Rc]at hq
 cases hv:nth τ k with
 |none=>rw[hv]at hq;cases hq
 |some e=>
  rw[hv]at hq
  cases hq
  simp only[Oa,hkj,AL,Cc]
  exact hs _ _ (h6 k e hv)
def RR(draw:Bool)(n:Nat)(l:List Oper)(is:List Ei)(m:Nat)(anc:List (List Nat)):Bool:=
 Lc n l&&K9 m is&&(cond draw (Vu anc 0 l&&Nat.beq anc.length l.length&&Ka l.toArray (PP anc) (l.zip is) 0 (l.zip is)) (Ka l.toArray (fun i j=>Nat.blt i j) (l.zip is) 0 (l.zip is)))
def PE(draw:Bool)(n:Nat)(l:List Oper)(is:List Ei)(m:Nat)(anc:List (List Nat)):Bool:=kY is&&RR draw n l is m anc
theorem ff{p:Prop}(h:false=true):p:=by cases h
theorem GR{X:Cx}{Γ:D2}{ρ:DU}{σ:List Res}{id:Nat}{l:List Oper}{draw:Bool}{Q:Exit→Act→World→Prop}(anc:List (List Nat)){is:List Ei}{δ:DK}{τ:List VR}
  (hs:Steps X.P X.n l.toArray Γ ρ [] (FC σ) l is δ τ) (hm:draw=true→X.P.follows .mixedOrders=true) (hc:RR draw X.n l is σ.length anc=true) (hrs:cX (cond draw (PP anc) (fun i j=>Nat.blt i j)) (FC σ) is)
  (h: ∀ g,Next X Γ ρ δ τ g (Q .normal)):J X Γ ρ σ (.region id l.toArray draw) Q:=by
 intro a c hst
 obtain⟨obs,hown,hres⟩:=hst.own
 simp only[RR,Ao]at hc
 obtain⟨⟨hc1,hc2⟩,hc3⟩:=hc
 obtain⟨g1,g2,g3,g4⟩:=hs.spec (k:=0) [] (fun j=>by simp) rfl (FC σ) rfl rfl
 simp only[Ck,Aq]at g2 g3 g4
 have hτ: ∀ k r,nth (FC σ) k=some r→r.D=[]:=fun k r hr=>by
  rw[Hy]at hr
  cases hn:nth σ k with
  |none=>rw[hn]at hr;cases hr
  |some r'=>rw[hn]at hr;cases hr;rfl
 have hτ0: ∀ k r,nth (FC σ) k=some r→ ∃ r',nth σ k=some r'∧r= .c r':=fun k r hr=>by
  rw[Hy]at hr
  cases hn:nth σ k with
  |none=>rw[hn]at hr;cases hr
  |some r'=>rw[hn]at hr;cases hr;exact⟨r',rfl,rfl⟩
 have hsz:l.toArray.size=l.length:=by simp
 have hops: ∀ i o ii,l.toArray[i]? =some o→is[i]? =some ii→uj X.P X.n l.toArray Γ ρ (GL l.toArray is (fun _=>true) i) (G5 l.toArray is (FC σ) (fun _=>true) i) o ii:=g4
 have hacc:K9 (FC σ).length is=true:=by simpa[FC]using hc2
 cases draw with
 |false=>
  simp only[cond_false]at hc3
  refine wp_region ?_
  rw[List.range_eq_range']
  refine Zq (c0:=X.c0) (E:=X.E) (df:=X.df) (τ:=FC σ) (n:=X.n) (Γ:=Γ) (ρ:=ρ) (is:=is) (by simpa using hc1) hacc hτ (by simpa using hc3) (by simpa using g1) hops hrs ?_ l.toArray.size 0 (by omega) a c obs ?_
  ·intro a' c' obs' hI
   exact(hI.fin (δ:=δ) (τ':=τ) (by rw[hsz];exact g2) (by rw[hsz];exact g3) (fun j hj=>by simpa using hj)).next h
  have hf:(fun j=>decide (j<0))=fun _:Nat=>false:=by funext j;simp
  rw[hf]
  refine ZS.start hst.size hst.defers hst.facts hst.env hown fun k r hr=>?_
  obtain⟨r',hr',rfl⟩:=hτ0 k r hr
  exact hres k r' hr'
 |true=>
  simp only[cond_true,Ao]at hc3
  obtain⟨⟨hc3,hc4⟩,hc5⟩:=hc3
  refine wp_region_any (hm rfl) ?_
  have hT:Tr c Ix false ⟨{c.w with drawn:=c.w.drawn+1},c.M⟩ Ix:=⟨rfl,rfl,rfl,A5 _,fun _ _ _=>rfl,fun _ _=>⟨fun h=>h,.inl⟩,.inl rfl,hown.wf⟩
  have hle:Le c ⟨{c.w with drawn:=c.w.drawn+1},c.M⟩:=hT.le (fun _ h=>by cases h)
  refine iy (c0:=X.c0) (E:=X.E) (df:=X.df) (τ:=FC σ) (n:=X.n) (Γ:=Γ) (ρ:=ρ) (is:=is) (by simpa using hc1) hacc hτ anc (by simpa using hc3) (by simpa using hc5) (by simpa using g1) (by rw[hsz];exact Bj hc4) hops hrs ?_
   l.toArray.size (Array.replicate l.toArray.size false) a ⟨{c.w with drawn:=c.w.drawn+1},c.M⟩ obs (by simp) ?_ ?_ ?_
  ·intro L a' c' obs' hL hI
   exact(hI.fin (δ:=δ) (τ':=τ) (by rw[hsz];exact g2) (by rw[hsz];exact g3) hL).next h
  ·unfold left
   refine Ak (List.length_filter_le _ _) (by simp)
  ·intro j hj
   by_cases hjl:j<l.length<;>simp[Array.getElem?_replicate,hjl]at hj
  have hf:(fun j=>(Array.replicate l.toArray.size false).getD j false)=fun _:Nat=>false:=by
   funext j
   by_cases hjl:j<l.length<;>simp[Array.getElem?_replicate,hjl]
  rw[hf]
  refine ZS.start hst.size hst.defers (hst.facts.le hle) (fun t p hp=>p.st _ _ _ hle (hst.env t p hp)) (hown.no hT) fun k r hr=>?_
  obtain⟨r',hr',rfl⟩:=hτ0 k r hr
  exact r'.fr _ _ _ hle (fun _ _=>rfl) (hres k r' hr')
theorem zG{X:Cx}{Γ:D2}{ρ:DU}{σ:List Res}{id:Nat}{l:List Oper}{draw:Bool}{Q:Exit→Act→World→Prop}(anc:List (List Nat)){is:List Ei}{δ:DK}{τ:List VR}
  (hs:Steps X.P X.n l.toArray Γ ρ [] (FC σ) l is δ τ) (hm:draw=true→X.P.follows .mixedOrders=true) (hc:PE draw X.n l is σ.length anc=true)
  (h: ∀ g,Next X Γ ρ δ τ g (Q .normal)):J X Γ ρ σ (.region id l.toArray draw) Q:=by
 unfold PE at hc
 rw[Ao]at hc
 exact GR anc hs hm hc.2 (Um hc.1) h
def Lk(Γ:D2)(δ:DK)(ρ:DU)(x:Operand)(p:SP):Prop:=
 match x with
 | .tmp t=> ∃ q,DA δ ρ t=some q∧ ∀ f v c,FH Γ c→(q.at f).H v c→p.H v c
 | .const u=> ∀ c,FH Γ c→p.H u c
 | .global g=> ∀ c,FH Γ c→p.H (.pointer (some ⟨g,0,none⟩)) c
 | .func f=> ∀ c,FH Γ c→p.H (.func (.func f) #[] #[]) c
theorem Lk.t{Γ:D2}{δ:DK}{ρ:DU}{t:Nat}{p:SP}(h:DA δ ρ t=some (.c p)):Lk Γ δ ρ (.tmp t) p:=⟨_,h,fun _ _ _ _ h=>h⟩
theorem Lk.sub{Γ:D2}{δ:DK}{ρ:DU}{x:Operand}{q p:SP}(hs: ∀ v c,FH Γ c→q.H v c→p.H v c)(h:Lk Γ δ ρ x q):Lk Γ δ ρ x p:=by
 cases x with
 |tmp t=>obtain⟨e,he,hh⟩:=h;exact⟨e,he,fun f v c hf hv=>hs v c hf (hh f v c hf hv)⟩
 |const u=>exact fun c hf=>hs _ c hf (h c hf)
 |global g=>exact fun c hf=>hs _ c hf (h c hf)
 |func f=>exact fun c hf=>hs _ c hf (h c hf)
section code
variable {X:Cx} {Γ:D2} {ρ:DU} {σ:List Res} {Q:Exit→Act→World→Prop}
theorem zF{x y:Code}(h:J X Γ ρ σ x (Exit.then (fun a w=>y.wp X.P Q a w) Q)):J X Γ ρ σ (.seq x y) Q:=fun a c hs=>wp_seq (h a c hs)
theorem zC{y:Code}(h:J X Γ ρ σ y Q):JN X Γ ρ σ (Exit.then (fun a w=>y.wp X.P Q a w) Q .normal):=h
theorem zT{id:Nat}{y:Code}(h:J X Γ ρ σ y (Exit.inBlock id Q)):J X Γ ρ σ (.block id y) Q:=fun a c hs=>wp_block (h a c hs)
theorem zR{id:Nat}(h:JN X Γ ρ σ (Q .normal)):JN X Γ ρ σ (Exit.inBlock id Q .normal):=h
theorem yE(h:JN X Γ ρ σ (Q .normal)):J X Γ ρ σ .skip Q:=fun a c hs=>wp_skip (h a c hs)
theorem D6{id:Nat}(h:JN X Γ ρ σ (Q (.exit id))):J X Γ ρ σ (.exit id) Q:=fun a c hs=>wp_exit (h a c hs)
theorem yF(h:JN X Γ ρ σ (Q .ret)):J X Γ ρ σ .ret Q:=fun a c hs=>wp_ret (h a c hs)
theorem zS{id:Nat}(h:JN X Γ ρ σ (Q .normal)):JN X Γ ρ σ (Exit.inBlock id Q (.exit id)):=fun a c hs=>by
 simp only[Exit.inBlock,if_true];exact h a c hs
theorem Hl{id id':Nat}(hne:Nat.beq id' id=false)(h:JN X Γ ρ σ (Q (.exit id'))):JN X Γ ρ σ (Exit.inBlock id Q (.exit id')):=fun a c hs=>by
 have:id'≠id:=fun e=>by subst e;simp at hne
 simp only[Exit.inBlock,if_neg this];exact h a c hs
theorem zE{id:Nat}{K:Act→World→Prop}(h:JN X Γ ρ σ (Q (.exit id))):JN X Γ ρ σ (Exit.then K Q (.exit id)):=h
theorem zD{K:Act→World→Prop}(h:JN X Γ ρ σ (Q .ret)):JN X Γ ρ σ (Exit.then K Q .ret):=h
theorem yP{id:Nat}(h:JN X Γ ρ σ (Q .ret)):JN X Γ ρ σ (Exit.inBlock id Q .ret):=h
theorem Lk.holds{Γ:D2}{ρ:DU}{x:Operand}{p:SP}(h:Lk Γ [] ρ x p){a:Act}{c:EW}(hf:FH Γ c)(he:EH ρ (vl a) c):p.H (a.eval x) c:=by
 cases x with
 |tmp t=>
  obtain⟨e,he',hh⟩:=h
  simp only[DA]at he'
  split at he'
  ·rename_i q hq
   cases he'
   exact hh (vl a) _ c hf (he t q hq)
  cases he'
 |const u=>exact h c hf
 |global g=>exact h c hf
 |func f=>exact h c hf
def To(X:Cx)(Γ:D2)(ρ:DU)(σ:List Res)(Γ':D2)(ρ':DU)(σ':List Res):Prop:= ∀ a c,St X Γ ρ σ a c→ ∃ c',c'.w=c.w∧St X Γ' ρ' σ' a c'
theorem yN{Γ':D2}{ρ':DU}{σ':List Res}{k:Code}(ht:To X Γ ρ σ Γ' ρ' σ')(h:J X Γ' ρ' σ' k Q):J X Γ ρ σ k Q:=fun a c hs=>by
 obtain⟨c',hw,hs'⟩:=ht a c hs
 rw[←hw]
 exact h a c' hs'
theorem D5{Γ':D2}{ρ':DU}{σ':List Res}{K:Act→World→Prop}(ht:To X Γ ρ σ Γ' ρ' σ')(h:JN X Γ' ρ' σ' K):JN X Γ ρ σ K:=fun a c hs=>by
 obtain⟨c',hw,hs'⟩:=ht a c hs
 rw[←hw]
 exact h a c' hs'
theorem To.trans{Γ1 Γ2:D2}{ρ1 ρ2:DU}{σ1 σ2:List Res}(h:To X Γ ρ σ Γ1 ρ1 σ1)(k:To X Γ1 ρ1 σ1 Γ2 ρ2 σ2):To X Γ ρ σ Γ2 ρ2 σ2:=fun a c hs=>by
 obtain⟨c1,h1,h2⟩:=h a c hs
 obtain⟨c2,h3,h4⟩:=k a c1 h2
 exact⟨c2,h3.trans h1,h4⟩
theorem To.pick{ρ':DU}{σ':List Res}{ks:List Nat}(hE: ∀ g,Fy g Γ [] ρ ρ')(hR: ∀ g,GE g (FC σ) ks σ')(hk:Fx ks=true):To X Γ ρ σ Γ ρ' σ':=fun a c hs=>by
 obtain⟨obs,hown,hres⟩:=hs.own
 refine⟨c,rfl,hs.size,hs.defers,hs.facts,fun t p hp=>?_,Oa obs ks,hown.pick hk,fun j r hr=>?_⟩
 ·obtain⟨q,hq,hh⟩:=hE (vl a) t p hp
  simp only[Et]at hq
  exact hh _ _ hs.facts (hs.env t q hq)
 obtain⟨k,q,hkj,hq,hh⟩:=(hR (vl a)).spec j r hr
 rw[Rc,Hy]at hq
 cases hv:nth σ k with
 |none=>rw[hv]at hq;cases hq
 |some e=>
  rw[hv]at hq
  cases hq
  simp only[Oa,hkj,AL,Cc]
  exact hh _ _ (hres k e hv)
def emp:Res:=⟨fun _ ob=>ob=Ix,fun _ _ _ _ _ h=>h⟩
theorem To.emp:To X Γ ρ σ Γ ρ (σ++ [emp]):=fun a c hs=>by
 obtain⟨obs,hown,hres⟩:=hs.own
 refine⟨c,rfl,hs.size,hs.defers,hs.facts,hs.env,fun k=>if k<σ.length then obs k else Ix,?_,fun k r hr=>?_⟩
 ·exact{hown with
   has:=fun k b hb=>by
    by_cases hk:k<σ.length
    ·rw[if_pos hk]at hb;exact hown.has k b hb
    rw[if_neg hk]at hb;cases hb
   one:=fun i j b hi hj=>by
    by_cases hk:i<σ.length
    ·by_cases hk':j<σ.length
     ·rw[if_pos hk]at hi;rw[if_pos hk']at hj;exact hown.one i j b hi hj
     rw[if_neg hk']at hj;cases hj
    rw[if_neg hk]at hi;cases hi}
 rw[Dq]at hr
 by_cases hk:k<σ.length
 ·simp only[if_pos hk]
  rw[AW hk]at hr
  exact hres k r (by rw[Dq];exact hr)
 simp only[if_neg hk]
 rw[Bp (by omega)]at hr
 by_cases he:k-σ.length=0
 ·rw[he]at hr
  simp only[C2,Ah]at hr
  subst hr
  rfl
 rw[AT (by simp;omega)]at hr;cases hr
theorem To.emps: ∀ m:Nat,To X Γ ρ σ Γ ρ (σ++List.replicate m Go.Bn.emp)
 |0=>by intro a c hs;refine⟨c,rfl,?_⟩;simpa using hs
 |m+1=>by
  have h:=(To.emps m).trans To.emp
  have e:σ++List.replicate (m+1) Go.Bn.emp=σ++List.replicate m Go.Bn.emp++ [Go.Bn.emp]:=by rw[List.replicate_succ',Bg]
  rw[e];exact h
def KO(r:Res)(v:Value)(p:SP):Prop:= ∀ c c' ob,r.H c ob→Le c c'→(∀ b,ob b→c'.w.heap[b]? =c.w.heap[b]? ∧ ¬c'.M b)→p.H v c'
def EK:List Res→Nat→Res→List Res
 |[],_,_=>[]
 |_::l,0,r=>r::l
 |x::l,k+1,r=>x::EK l k r
theorem G3(r:Res): ∀ (l:List Res) (k j:Nat),nth (EK l k r) j=if j=k then(nth l j).map (fun _=>r)else nth l j
 |[],k,j=>by simp[EK,nth]
 |x::l,0,0=>by simp[EK,nth]
 |x::l,0,j+1=>by simp[EK,nth]
 |x::l,k+1,0=>by simp[EK,nth]
 |x::l,k+1,j+1=>by simpa[EK,nth]using G3 r l k j
theorem To.freeze(k:Nat){r:Res}{v:Value}{p:SP}(hE: ∀ b,¬X.E b)(hr:nth σ k=some r)(hf:KO r v p){σ':List Res}(hσ':EK σ k Go.Bn.emp=σ'):To X Γ ρ σ ((v,p)::Γ) ρ σ':=by
 subst hσ'
 intro a c hs
 obtain⟨obs,hown,hres⟩:=hs.own
 let c':EW:=⟨c.w,fun b=>c.M b∧ ¬obs k b⟩
 have hle:Le c c':=⟨rfl,rfl,rfl,A5 _,fun j _ hm=>⟨rfl,fun h=>hm h.1⟩⟩
 refine⟨c',rfl,hs.size,hs.defers,⟨?_,hs.facts.2.le hle⟩,fun t q hq=>q.st _ _ _ hle (hs.env t q hq),fun j=>if j=k then Ix else obs j,?_,?_⟩
 ·intro v' p' hm
  rcases AH.1 hm with he|hm
  ·cases he
   exact hf c c' (obs k) (hres k r hr) hle fun b hb=>⟨rfl,fun h=>h.2 hb⟩
  exact p'.st _ _ _ hle (hs.facts.1 v' p' hm)
 ·refine⟨hown.os,hown.tape,hown.out,hown.size,hown.heap,fun j hj=>?_,fun j hj=>hown.wf j hj.1,fun j b hb=>?_,fun i j b hi hj=>?_,hown.wf0⟩
  ·refine⟨fun h=>(hown.mem j hj).1 h.1,fun h=>((hown.mem j hj).2 h).elim (fun h=>?_) .inr⟩
   by_cases e:obs k j
   ·rcases(hown.has k j e).2 with h'|h'
    ·omega
    exact .inr h'
   exact .inl ⟨h,e⟩
  ·by_cases hjk:j=k
   ·simp only[if_pos hjk]at hb;cases hb
   simp only[if_neg hjk]at hb
   exact⟨⟨(hown.has j b hb).1,fun e=>hjk (hown.one j k b hb e)⟩,(hown.has j b hb).2⟩
  by_cases hik:i=k
  ·simp only[if_pos hik]at hi;cases hi
  by_cases hjk:j=k
  ·simp only[if_pos hjk]at hj;cases hj
  simp only[if_neg hik]at hi
  simp only[if_neg hjk]at hj
  exact hown.one i j b hi hj
 intro j r' hj
 rw[G3]at hj
 by_cases hjk:j=k
 ·rw[if_pos hjk]at hj
  simp only[if_pos hjk]
  cases hn:nth σ j with
  |none=>rw[hn]at hj;cases hj
  |some x=>rw[hn]at hj;cases hj;rfl
 rw[if_neg hjk]at hj
 simp only[if_neg hjk]
 exact r'.fr _ _ _ hle (fun _ _=>rfl) (hres j r' hj)
theorem zH{b:Bool}{x:Operand}{thn els:Code}(hx: ∀ a c,FH Γ c→EH ρ (vl a) c→a.eval x= .bool b)(h1:b=true→J X Γ ρ σ thn Q)(h2:b=false→J X Γ ρ σ els Q):J X Γ ρ σ (.cond x thn els) Q:=fun a c hs=>
 wp_cond_split (hx a c hs.facts hs.env) (fun h=>h1 h a c hs) (fun h=>h2 h a c hs)
theorem oG{x:Operand}{thn els:Code}(hx: ∀ a c,St X Γ ρ σ a c→ ∃ b,a.eval x= .bool b∧((b=true→thn.wp X.P Q a c.w)∧(b=false→els.wp X.P Q a c.w))):J X Γ ρ σ (.cond x thn els) Q:=fun a c hs=>by
 obtain⟨b,he,h1,h2⟩:=hx a c hs
 exact wp_cond_split he h1 h2
theorem XU{P:Program}{k:Code}(I:Nat→Act→World→Prop)(round: ∀ n a w,I n a w→k.wp P (Exit.then (fun a' w'=> ∃ m,m<n∧I m a' w') Q) a w):
  ∀ n a w,I n a w→(Code.loop k).wp P Q a w:=by
 intro n a w h₀ b kk cs
 have key: ∀ n a w,I n a w→ ∃ e a' w',Q e a' w'∧Arrives P (lone (b.at a (.code k:: .inLoop k::kk)) cs w) b kk cs e a' w':=by
  intro n
  induction n using Nat.strongRecOn with
  |_ n ih=>
   intro a w hI
   obtain⟨e,a₁,w₁,hq,harr⟩:=round n a w hI b (.inLoop k::kk) cs
   cases e with
   |normal=>
    obtain⟨m,hlt,hI₁⟩:=hq
    obtain⟨e₂,a₂,w₂,hq₂,harr₂⟩:=ih m hlt a₁ w₁ hI₁
    exact⟨e₂,a₂,w₂,hq₂,.of_steps (Steps.trans harr (.one step_inLoop)) harr₂⟩
   |exit id=>exact⟨_,a₁,w₁,hq,.pass (x:= .inLoop k) rfl (fun _ _=> .inl (by simp)) harr⟩
   |goto l=>exact⟨_,a₁,w₁,hq,.pass (x:= .inLoop k) rfl (fun _ _=> .inl (by simp)) harr⟩
   |ret=>exact⟨_,a₁,w₁,hq,.pass (x:= .inLoop k) rfl (fun _ _=> .inl (by simp)) harr⟩
   |panic ch=>exact⟨_,a₁,w₁,hq,.pass (x:= .inLoop k) rfl (fun _ _=> .inl (by simp)) harr⟩
   |outgrown=>exact⟨_,a₁,w₁,hq,.pass (x:= .inLoop k) rfl (fun _ _=> .inl (by simp)) harr⟩
 obtain⟨e,a',w',hq,harr⟩:=key n a w h₀
 exact⟨e,a',w',hq,.of_steps (.one step_loop) harr⟩
def gV{α:Type}(X:Cx)(I:α→Prop)(μ:α→Nat)(Γf:α→D2)(ρf:α→DU)(σf:α→List Res)(n:Nat)(a:Act)(w:World):Prop:=
 ∃ x c,I x∧μ x<n∧c.w=w∧St X (Γf x) (ρf x) (σf x) a c
theorem ue{α:Type}{k:Code}(I:α→Prop)(μ:α→Nat)(Γf:α→D2)(ρf:α→DU)(σf:α→List Res)(x0:α)(h0:I x0)(ht:To X Γ ρ σ (Γf x0) (ρf x0) (σf x0))
  (round: ∀ x,I x→J X (Γf x) (ρf x) (σf x) k (Exit.then (gV X I μ Γf ρf σf (μ x)) Q)):J X Γ ρ σ (.loop k) Q:=fun a c hs=>by
 obtain⟨c',hw,hs'⟩:=ht a c hs
 rw[←hw]
 refine XU (fun n a w=> ∃ x c,I x∧μ x=n∧c.w=w∧St X (Γf x) (ρf x) (σf x) a c) ?_ (μ x0) a c'.w ⟨x0,c',h0,rfl,rfl,hs'⟩
 rintro n a w ⟨x,c,hI,hn,hw,hst⟩
 subst hw
 refine Code.wp_mono ?_ (round x hI a c hst)
 intro e a' w' hq
 cases e with
 |normal=>
  obtain⟨y,c'',hy,hlt,hw',hst'⟩:=hq
  exact⟨μ y,by omega,y,c'',hy,rfl,hw',hst'⟩
 |_=>exact hq
theorem yW{α:Type}{I:α→Prop}{μ:α→Nat}{Γf:α→D2}{ρf:α→DU}{σf:α→List Res}{n:Nat}(x:α)(hI:I x)(hμ:μ x<n)(ht:To X Γ ρ σ (Γf x) (ρf x) (σf x)):
  JN X Γ ρ σ (Exit.then (gV X I μ Γf ρf σf n) Q .normal):=fun a c hs=>by
 obtain⟨c',hw,hs'⟩:=ht a c hs
 exact⟨x,c',hI,hμ,hw,hs'⟩
theorem D4{α:Type}{k:Code}(I:α→Prop)(μ:α→Nat)(ρf:α→DU→DU)(σf:α→List Res→List Res){ρc:DU}{σc:List Res}(x0:α)(h0:I x0)(ht:To X Γ ρ σ Γ (ρf x0 ρc) (σf x0 σc))
  (round: ∀ x,I x→J X Γ (ρf x ρc) (σf x σc) k (Exit.then (gV X I μ (fun _=>Γ) (fun x=>ρf x ρc) (fun x=>σf x σc) (μ x)) Q)):J X Γ ρ σ (.loop k) Q:=
 ue I μ (fun _=>Γ) (fun x=>ρf x ρc) (fun x=>σf x σc) x0 h0 ht round
end code
def CW(u:Value):SP:=⟨fun v _=>v=u∧u.oneCell'=true,fun _ _ _ _ h=>h⟩
abbrev I6(z:Int):SP:=CW (.int .i64 z)
def Ge:SP:=⟨fun _ _=>True,fun _ _ _ _ h=>h⟩
def whn(C:Prop)(p:SP):SP:=⟨fun v c=>(C→p.H v c)∧(¬C→v=undef),fun _ _ _ hle h=>⟨fun hc=>p.st _ _ _ hle (h.1 hc),h.2⟩⟩
def CL(l:List SP)(cur:Array Value)(off:Nat)(c:EW):Prop:= ∀ i p,nth l i=some p→ ∃ u,cur[off+i]? =some u∧u.oneCell'=true∧p.H u c
theorem CL.st{l:List SP}{cur:Array Value}{off:Nat}{c c':EW}(hle:Le c c')(h:CL l cur off c):CL l cur off c':=fun i p hp=>by
 obtain⟨u,h1,h2,h3⟩:=h i p hp
 exact⟨u,h1,h2,p.st _ _ _ hle h3⟩
theorem CL.le{l:List SP}{cur:Array Value}{off:Nat}{c:EW}(h:CL l cur off c)(hl:l≠ []):off+l.length≤cur.size:=by
 have hpos:l.length-1<l.length:=by
  cases l with
  |nil=>exact(hl rfl).elim
  |cons x l=>simp
 obtain⟨u,h1,_⟩:=h (l.length-1) l[l.length-1] (by rw[Dq];exact Ag hpos)
 have:=(BA.1 h1).1
 omega
def Gf(cells:List SP):SP:=⟨fun v c=> ∃ b off cur T fz,v= .pointer (some ⟨b,off,none⟩)∧ ¬c.M b∧c.w.heap[b]? =some (.cells cur T fz)∧CL cells cur off c,by
 rintro v c c' hle ⟨b,off,cur,T,fz,h1,h2,h3,h4⟩
 have hb:b<c.w.heap.size:=(BA.1 h3).1
 have hk:=hle.keep b hb h2
 exact⟨b,off,cur,T,fz,h1,hk.2,hk.1.trans h3,h4.st hle⟩⟩
def Mv(n k:Nat)(cells:List SP):SP:=⟨fun v c=>cells.length=n*k∧((v= .slice none 0 0∧n=0)∨ ∃ ad cap,v= .slice (some ad) n cap∧n≤cap∧cap≤maxLen∧
  (n=0∨ ∃ b off,ad=⟨b,off,none⟩∧ ¬c.M b∧ ∃ cur T fz,c.w.heap[b]? =some (.cells cur T fz)∧CL cells cur off c)),by
 rintro v c c' hle ⟨h0,h⟩
 refine⟨h0,?_⟩
 rcases h with h|⟨ad,cap,h1,h2,h3,h4⟩
 ·exact .inl h
 refine .inr ⟨ad,cap,h1,h2,h3,?_⟩
 rcases h4 with h4|⟨b,off,ha,h4,cur,T,fz,h5,h6⟩
 ·exact .inl h4
 have hb:b<c.w.heap.size:=(BA.1 h5).1
 have hk:=hle.keep b hb h4
 exact .inr ⟨b,off,ha,hk.2,cur,T,fz,hk.1.trans h5,h6.st hle⟩⟩
def slp(ps:List SP):SP:=Mv ps.length 1 ps
def DL(cells:List SP):SP:=⟨fun v c=> ∃ cs,v= .agg cs∧cs.size=cells.length∧CL cells cs 0 c,by
 rintro v c c' hle ⟨cs,h1,h2,h3⟩
 exact⟨cs,h1,h2,h3.st hle⟩⟩
def HL:List SP→List Value→EW→Prop
 |[],[],_=>True
 |p::ps,v::vs,c=>p.H v c∧HL ps vs c
 |_,_,_=>False
theorem HL.st{c c':EW}(hle:Le c c'): ∀ {ps:List SP} {vs:List Value},HL ps vs c→HL ps vs c'
 |[],[],_=>trivial
 |p::ps,v::vs,h=>⟨p.st _ _ _ hle h.1,HL.st hle h.2⟩
 |[],_::_,h=>h.elim
 |_::_,[],h=>h.elim
theorem HL.nth{c:EW}: ∀ {ps:List SP} {vs:List Value},HL ps vs c→ ∀ i p,nth ps i=some p→ ∃ v,vs[i]? =some v∧p.H v c
 |[],[],_,i,p,h=>by simp[Bn.nth]at h
 |p::ps,v::vs,h,0,q,hq=>by simp only[Bn.nth,Ah]at hq;subst hq;exact⟨v,rfl,h.1⟩
 |p::ps,v::vs,h,i+1,q,hq=>by
  obtain⟨u,h1,h2⟩:=HL.nth h.2 i q hq
  exact⟨u,by simpa using h1,h2⟩
 |[],_::_,h,_,_,_=>h.elim
 |_::_,[],h,_,_,_=>h.elim
theorem HL.len{c:EW}: ∀ {ps:List SP} {vs:List Value},HL ps vs c→vs.length=ps.length
 |[],[],_=>rfl
 |_::_,_::_,h=>by simp[HL.len h.2]
 |[],_::_,h=>h.elim
 |_::_,[],h=>h.elim
def EP(ps:List SP):SP:=⟨fun v c=> ∃ vs:List Value,v= .tuple vs.toArray∧HL ps vs c,by
 rintro v c c' hle ⟨vs,h1,h2⟩
 exact⟨vs,h1,h2.st hle⟩⟩
def FN(b:Nat):Bool:=(Ieee.double.read b).isNaN
def oJ:Nat:=0x7ff8000000000001
def cn(b:Nat):Nat:=if FN b then oJ else b
def Dm(x:Nat):SP:=⟨fun v _=> ∃ b,v= .float .f64 b∧b<2^64∧cn b=x,fun _ _ _ _ h=>h⟩
def ti(r:Option Nat):Nat:=r.getD oJ
def TV(x y:Nat):Nat:=ti (Ieee.double.add x y)
def MA(x y:Nat):Nat:=ti (Ieee.double.sub x y)
def Ft(x y:Nat):Nat:=ti (Ieee.double.mul x y)
def fdiv(x y:Nat):Nat:=ti (Ieee.double.div x y)
def DW(base:Value)(off:Nat):SP:=⟨fun v _=> ∃ b,(base= .pointer (some ⟨b,0,none⟩)∨ ∃ n cap,base= .slice (some ⟨b,0,none⟩) n cap)∧v= .pointer (some ⟨b,off,none⟩),fun _ _ _ _ h=>h⟩
theorem kK{ob:Bs}{b:Nat}(h:ob=only b):ob b:=by rw[h];rfl
theorem of1{ob:Bs}{b k:Nat}(h:ob=only b)(hk:ob k):k=b:=by rw[h]at hk;exact hk
def Dh(base:Value)(cells:List SP)(T:TypeId):Res:=⟨fun c ob=> ∃ b cur,base= .pointer (some ⟨b,0,none⟩)∧ob=only b∧c.w.heap[b]? =some (.cells cur T (0,0))∧cur.size=cells.length∧CL cells cur 0 c,by
 rintro c c' ob hle hk ⟨b,cur,h1,h2,h3,h4,h5⟩
 exact⟨b,cur,h1,h2,(hk b (kK h2)).trans h3,h4,h5.st hle⟩⟩
def Za(sv:Value)(n k:Nat)(cells:List SP)(T:TypeId):Res:=⟨fun c ob=>cells.length=n*k∧((sv= .slice none 0 0∧n=0∧ob=Ix)∨
  ∃ b cap cur,sv= .slice (some ⟨b,0,none⟩) n cap∧ob=only b∧n≤cap∧cap≤maxLen∧c.w.heap[b]? =some (.cells cur T (0,0))∧cur.size=cap*k∧CL cells cur 0 c),by
 rintro c c' ob hle hk ⟨h0,h⟩
 refine⟨h0,?_⟩
 rcases h with h|⟨b,cap,cur,h1,h2,h3,h4,h5,h6,h7⟩
 ·exact .inl h
 exact .inr ⟨b,cap,cur,h1,h2,h3,h4,(hk b (kK h2)).trans h5,h6,h7.st hle⟩⟩
theorem Dv{base:Value}{cells:List SP}{T:TypeId}:KO (Dh base cells T) base (Gf cells):=by
 rintro c c' ob ⟨b,cur,h1,h2,h3,h4,h5⟩ hle hob
 have:=hob b (kK h2)
 exact⟨b,0,cur,T,(0,0),h1,this.2,this.1.trans h3,h5.st hle⟩
theorem aO{sv:Value}{n k:Nat}{cells:List SP}{T:TypeId}:KO (Za sv n k cells T) sv (Mv n k cells):=by
 rintro c c' ob ⟨h0,h⟩ hle hob
 refine⟨h0,?_⟩
 rcases h with ⟨h1,h2,_⟩|⟨b,cap,cur,h1,h2,h3,h4,h5,h6,h7⟩
 ·exact .inl ⟨h1,h2⟩
 have:=hob b (kK h2)
 exact .inr ⟨⟨b,0,none⟩,cap,h1,h3,h4,.inr ⟨b,0,rfl,this.2,cur,T,(0,0),this.1.trans h5,h7.st hle⟩⟩
def I3{α:Type}:Nat→Nat→List α→Option (List α)
 |0,0,_=>some []
 |0,m+1,x::l=>(I3 0 m l).map (x:: ·)
 |0,_+1,[]=>none
 |o+1,m,_::l=>I3 o m l
 |_+1,_,[]=>none
theorem Gz{α:Type}: ∀ {o m:Nat} {l l':List α},I3 o m l=some l'→l'.length=m∧o+m≤l.length∧ ∀ i,i<m→nth l' i=nth l (o+i)
 |0,0,_,l',h=>by simp only[I3,Ah]at h;subst h;exact⟨rfl,A7 _,fun i hi=>by omega⟩
 |0,m+1,x::l,l',h=>by
  simp only[I3,CN]at h
  obtain⟨l'',h1,rfl⟩:=h
  obtain⟨g1,g2,g3⟩:=Gz h1
  refine⟨by simp[g1],by simp;omega,fun i hi=>?_⟩
  cases i with
  |zero=>rfl
  |succ i=>have:=g3 i (by omega);simpa[nth]using this
 |0,m+1,[],l',h=>by simp[I3]at h
 |o+1,m,x::l,l',h=>by
  simp only[I3]at h
  obtain⟨g1,g2,g3⟩:=Gz h
  refine⟨g1,by simp;omega,fun i hi=>?_⟩
  rw[g3 i hi,Nat.add_right_comm]
  rfl
 |o+1,m,[],l',h=>by simp[I3]at h
def PR{α:Type}:Nat→List α→List α→Option (List α)
 |_,[],l=>some l
 |0,x::xs,_::l=>(PR 0 xs l).map (x:: ·)
 |0,_::_,[]=>none
 |o+1,xs,y::l=>(PR o xs l).map (y:: ·)
 |_+1,_::_,[]=>none
theorem Ms{α:Type}: ∀ {o:Nat} {xs l l':List α},PR o xs l=some l'→l'.length=l.length∧(xs=[]∨o+xs.length≤l.length)∧ ∀ i,nth l' i=if o≤i∧i<o+xs.length then nth xs (i-o)else nth l i
 |o,[],l,l',h=>by
  simp only[PR,Ah]at h
  subst h
  exact⟨rfl,.inl rfl,fun i=>by rw[if_neg (by simp)]⟩
 |0,x::xs,y::l,l',h=>by
  simp only[PR,CN]at h
  obtain⟨l'',h1,rfl⟩:=h
  obtain⟨g1,g2,g3⟩:=Ms h1
  refine⟨by simp[g1],.inr ?_,fun i=>?_⟩
  ·rcases g2 with rfl|g2<;>simp at* <;>omega
  cases i with
  |zero=>simp[nth]
  |succ i=>
   have:=g3 i
   simp only[A7,true_and,Aq,Nat.sub_zero]at this⊢
   simp only[nth,AG,Nat.add_lt_add_iff_right]
   exact this
 |0,x::xs,[],l',h=>by simp[PR]at h
 |o+1,x::xs,y::l,l',h=>by
  simp only[PR,CN]at h
  obtain⟨l'',h1,rfl⟩:=h
  obtain⟨g1,g2,g3⟩:=Ms h1
  refine⟨by simp[g1],.inr ?_,fun i=>?_⟩
  ·rcases g2 with h'|g2
   ·cases h'
   simp at*;omega
  cases i with
  |zero=>simp[nth]
  |succ i=>
   have:=g3 i
   simp only[nth]
   rw[this]
   have e:(o+1≤i+1∧i+1<o+1+(x::xs).length)↔(o≤i∧i<o+(x::xs).length):=by omega
   simp only[e,Nat.add_sub_add_right]
 |o+1,x::xs,[],l',h=>by simp[PR]at h
def F8(p:SP)(l:List SP):Prop:= ∀ v c,p.H v c→v.cells.size=l.length∧CL l v.cells 0 c
theorem F8.one{p:SP}(h: ∀ v c,p.H v c→v.oneCell'=true):F8 p [p]:=fun v c hv=>by
 have h1:=h v c hv
 have hc:v.cells= #[v]:=by cases v<;>simp[Value.cells,Value.oneCell']at h1⊢
 refine⟨by simp[hc],fun i q hq=>?_⟩
 cases i with
 |zero=>simp only[nth,Ah]at hq;subst hq;exact⟨v,by simp[hc],h1,hv⟩
 |succ i=>simp[nth]at hq
theorem D7{u:Value}:F8 (CW u) [CW u]:= .one fun _ _ h=>h.1▸h.2
theorem Dj{x:Nat}:F8 (Dm x) [Dm x]:= .one fun _ _ ⟨_,h,_⟩=>h▸rfl
theorem Fe{n k:Nat}{l:List SP}:F8 (Mv n k l) [Mv n k l]:= .one fun _ _ ⟨_,h⟩=>by
 rcases h with ⟨h,_⟩|⟨_,_,h,_⟩<;>subst h<;>rfl
theorem iR{l:List SP}:F8 (Gf l) [Gf l]:= .one fun _ _ ⟨_,_,_,_,_,h,_⟩=>h▸rfl
theorem HH{b:Value}{o:Nat}:F8 (DW b o) [DW b o]:= .one fun _ _ ⟨_,_,h⟩=>h▸rfl
theorem yL{l:List SP}:F8 (DL l) l:=fun v c ⟨cs,h1,h2,h3⟩=>by subst h1;exact⟨h2,h3⟩
def ET:VR:= .c emp
section ops
variable {P:Program} {n:Nat} {ops:Array Oper} {Γ:D2} {ρ:DU} {δ:DK} {τ:List VR}
theorem Lk.val{o:Oper}{a:Act}{c:EW}(hr: ∀ t,t∈o.looksAt ops→ ∀ q,DA δ ρ t=some q→(q.at (vl a)).H (vl a t) c)(hf:FH Γ c){x:Operand}{p:SP}(hm:x∈o.op.operands)(h:Lk Γ δ ρ x p):p.H (a.eval x) c:=by
 cases x with
 |tmp t=>
  obtain⟨e,he,hh⟩:=h
  exact hh (vl a) _ c hf (hr t (B3 _ (BM.2 ⟨.tmp t,by simpa using hm,rfl⟩)) e he)
 |const u=>exact h c hf
 |global g=>exact h c hf
 |func f=>exact h c hf
theorem Lk.k{u:Value}(h:u.oneCell'=true):Lk Γ δ ρ (.const u) (CW u):=fun _ _=>⟨rfl,h⟩
theorem Tr.refl{c:EW}{ob:Bs}{wr:Bool}(h: ∀ k,c.M k→k<c.w.heap.size):Tr c ob wr c ob:=⟨rfl,rfl,rfl,A5 _,fun _ _ _=>rfl,fun _ _=>⟨id,.inl⟩,.inl rfl,h⟩
theorem DE{d:Option Nat}{op:Op}{ty:TypeId}{pos:String}{af:Array Edge}{p:SP}
  (h: ∀ (a:Act) (c:EW),FH Γ c→(∀ x q,x∈op.operands→Lk Γ δ ρ x q→q.H (a.eval x) c)→ ∃ v,(execOp a.eval ⟨d,op,ty,pos,af,none⟩).run P c.w= .ok (.value v) c.w∧p.H v c):
  OpOK P n ops Γ ρ δ τ ⟨d,op,ty,pos,af,none⟩ .no (.c p) ET:=by
 intro a c ob hs hwf hf hr _ hno _
 obtain⟨v,hv,hp⟩:=h a c hf (fun x q hx hq=>Lk.val (o:=⟨d,op,ty,pos,af,none⟩) hr hf hx hq)
 simp only[Region.wanted,if_true]
 unfold GP
 rw[hv]
 exact⟨c,ob,rfl,Tr.refl hwf,hp,fun h=>(by cases h)⟩
variable {d:Nat} {ty:TypeId} {pos:String} {af:Array Edge}
theorem zA{x:Operand}{p:SP}(hx:Lk Γ δ ρ x p):OpOK P n ops Γ ρ δ τ ⟨some d,.move x,ty,pos,af,none⟩ .no (.c p) ET:=
 DE fun a c _ hr=>⟨a.eval x,rfl,hr x p (by simp[Op.operands]) hx⟩
theorem xB{tx0:Nat}{p:SP}(hx:DA δ ρ tx0=some (.c p)):OpOK P n ops Γ ρ δ τ ⟨some d,.move (Operand.tmp tx0),ty,pos,af,none⟩ .no (.c p) ET:=by
 exact zA (.t hx)
theorem zB{x:Operand}{p:SP}(hx:Lk Γ δ ρ x p):OpOK P n ops Γ ρ δ τ ⟨some d,.assign x,ty,pos,af,none⟩ .no (.c p) ET:=
 DE fun a c _ hr=>⟨a.eval x,rfl,hr x p (by simp[Op.operands]) hx⟩
theorem EI{x:Operand}{t:TypeId}{b:Bool}(hx:Lk Γ δ ρ x (CW (.bool b))):OpOK P n ops Γ ρ δ τ ⟨some d,.unOp .not t x,ty,pos,af,none⟩ .no (.c (CW (.bool !b))) ET:=
 DE fun a c _ hr=>by
  have h:=(hr x _ (by simp[Op.operands]) hx).1
  exact⟨.bool !b,by simp[execOp,Op.unary,h],rfl,rfl⟩
theorem yK{x y:Operand}{t t':TypeId}{k:IntKind}{a b z:Int}(hx:Lk Γ δ ρ x (CW (.int k a)))(hy:Lk Γ δ ρ y (CW (.int k b)))(hz:k.wrap (a+b)=z):
  OpOK P n ops Γ ρ δ τ ⟨some d,.binOp .add t x y t',ty,pos,af,none⟩ .no (.c (CW (.int k z))) ET:=
 DE fun A c _ hr=>by
  have h1:=(hr x _ (by simp[Op.operands]) hx).1
  have h2:=(hr y _ (by simp[Op.operands]) hy).1
  exact⟨.int k z,by simp[execOp,eqGuard,binOp,Op.intArith,h1,h2,hz],rfl,rfl⟩
theorem xo{tx0:Nat}{t t':TypeId}{k:IntKind}{a b z:Int}(hx:DA δ ρ tx0=some (.c (CW (.int k a))))(hz:k.wrap (a+b)=z):OpOK P n ops Γ ρ δ τ ⟨some d,.binOp .add t (Operand.tmp tx0) (Operand.const (.int k b)) t',ty,pos,af,none⟩ .no (.c (CW (.int k z))) ET:=by
 exact yK (.t hx) (.k rfl) hz
theorem xq{tx0 ty0:Nat}{t t':TypeId}{k:IntKind}{a b z:Int}(hx:(DA δ ρ tx0,DA δ ρ ty0)=(some (.c (CW (.int k a))),some (.c (CW (.int k b)))))(hz:k.wrap (a+b)=z):OpOK P n ops Γ ρ δ τ ⟨some d,.binOp .add t (Operand.tmp tx0) (Operand.tmp ty0) t',ty,pos,af,none⟩ .no (.c (CW (.int k z))) ET:=by
 simp only[Ai]at hx
 obtain⟨hx,hy⟩:=hx
 exact yK (.t hx) (.t hy) hz
theorem Eb{x y:Operand}{t t':TypeId}{k:IntKind}{a b z:Int}(hx:Lk Γ δ ρ x (CW (.int k a)))(hy:Lk Γ δ ρ y (CW (.int k b)))(hz:k.wrap (a-b)=z):
  OpOK P n ops Γ ρ δ τ ⟨some d,.binOp .sub t x y t',ty,pos,af,none⟩ .no (.c (CW (.int k z))) ET:=
 DE fun A c _ hr=>by
  have h1:=(hr x _ (by simp[Op.operands]) hx).1
  have h2:=(hr y _ (by simp[Op.operands]) hy).1
  exact⟨.int k z,by simp[execOp,eqGuard,binOp,Op.intArith,h1,h2,hz],rfl,rfl⟩
theorem xh{tx0:Nat}{t t':TypeId}{k:IntKind}{a b z:Int}(hx:DA δ ρ tx0=some (.c (CW (.int k a))))(hz:k.wrap (a-b)=z):OpOK P n ops Γ ρ δ τ ⟨some d,.binOp .sub t (Operand.tmp tx0) (Operand.const (.int k b)) t',ty,pos,af,none⟩ .no (.c (CW (.int k z))) ET:=by
 exact Eb (.t hx) (.k rfl) hz
theorem Fi{x y:Operand}{t t':TypeId}{k:IntKind}{a b z:Int}(hx:Lk Γ δ ρ x (CW (.int k a)))(hy:Lk Γ δ ρ y (CW (.int k b)))(hz:k.wrap (a*b)=z):
  OpOK P n ops Γ ρ δ τ ⟨some d,.binOp .mul t x y t',ty,pos,af,none⟩ .no (.c (CW (.int k z))) ET:=
 DE fun A c _ hr=>by
  have h1:=(hr x _ (by simp[Op.operands]) hx).1
  have h2:=(hr y _ (by simp[Op.operands]) hy).1
  exact⟨.int k z,by simp[execOp,eqGuard,binOp,Op.intArith,h1,h2,hz],rfl,rfl⟩
theorem xu{tx0 ty0:Nat}{t t':TypeId}{k:IntKind}{a b z:Int}(hx:(DA δ ρ tx0,DA δ ρ ty0)=(some (.c (CW (.int k a))),some (.c (CW (.int k b)))))(hz:k.wrap (a*b)=z):OpOK P n ops Γ ρ δ τ ⟨some d,.binOp .mul t (Operand.tmp tx0) (Operand.tmp ty0) t',ty,pos,af,none⟩ .no (.c (CW (.int k z))) ET:=by
 simp only[Ai]at hx
 obtain⟨hx,hy⟩:=hx
 exact Fi (.t hx) (.t hy) hz
theorem Gq{x y:Operand}{t t':TypeId}{k:IntKind}{a b z:Int}(hx:Lk Γ δ ρ x (CW (.int k a)))(hy:Lk Γ δ ρ y (CW (.int k b)))(h0:b≠0)(hz:k.wrap (a.tdiv b)=z):
  OpOK P n ops Γ ρ δ τ ⟨some d,.binOp .quo t x y t',ty,pos,af,none⟩ .no (.c (CW (.int k z))) ET:=
 DE fun A c _ hr=>by
  have h1:=(hr x _ (by simp[Op.operands]) hx).1
  have h2:=(hr y _ (by simp[Op.operands]) hy).1
  exact⟨.int k z,by simp[execOp,eqGuard,binOp,Op.intDiv,h1,h2,h0,hz],rfl,rfl⟩
theorem Gr{x y:Operand}{t t':TypeId}{k:IntKind}{a b z:Int}(hx:Lk Γ δ ρ x (CW (.int k a)))(hy:Lk Γ δ ρ y (CW (.int k b)))(h0:b≠0)(hz:a.tmod b=z):
  OpOK P n ops Γ ρ δ τ ⟨some d,.binOp .rem t x y t',ty,pos,af,none⟩ .no (.c (CW (.int k z))) ET:=
 DE fun A c _ hr=>by
  have h1:=(hr x _ (by simp[Op.operands]) hx).1
  have h2:=(hr y _ (by simp[Op.operands]) hy).1
  exact⟨.int k z,by simp[execOp,eqGuard,binOp,Op.intDiv,h1,h2,h0,hz],rfl,rfl⟩
def Ej(op:BinOp)(k:IntKind)(x y:Int):Int:=
 let a:=BitVec.ofInt k.bits x
 let b:=BitVec.ofInt k.bits y
 match op with
 | .and=>k.wrap (a&&&b).toNat
 | .or=>k.wrap (a|||b).toNat
 | .xor=>k.wrap (a^^^b).toNat
 |_=>k.wrap (a&&& ~~~b).toNat
theorem Ep{x y:Operand}{t t':TypeId}{op:BinOp}{k:IntKind}{a b z:Int}(hop:op= .and∨op= .or∨op= .xor∨op= .andNot)(hx:Lk Γ δ ρ x (CW (.int k a)))(hy:Lk Γ δ ρ y (CW (.int k b)))(hz:Ej op k a b=z):
  OpOK P n ops Γ ρ δ τ ⟨some d,.binOp op t x y t',ty,pos,af,none⟩ .no (.c (CW (.int k z))) ET:=
 DE fun A c _ hr=>by
  have h1:=(hr x _ (by simp[Op.operands]) hx).1
  have h2:=(hr y _ (by simp[Op.operands]) hy).1
  refine⟨.int k z,?_,rfl,rfl⟩
  subst hz
  rcases hop with h|h|h|h<;>subst h<;>simp[execOp,eqGuard,binOp,Op.intBits,h1,h2,Ej]
theorem GD{x y:Operand}{t t':TypeId}{k k':IntKind}{a b z:Int}(hx:Lk Γ δ ρ x (CW (.int k a)))(hy:Lk Γ δ ρ y (CW (.int k' b)))(h0:0≤b)(hz:k.wrap (a*2^min b.toNat k.bits)=z):
  OpOK P n ops Γ ρ δ τ ⟨some d,.binOp .shl t x y t',ty,pos,af,none⟩ .no (.c (CW (.int k z))) ET:=
 DE fun A c _ hr=>by
  have h1:=(hr x _ (by simp[Op.operands]) hx).1
  have h2:=(hr y _ (by simp[Op.operands]) hy).1
  have h3: ¬b<0:=by omega
  exact⟨.int k z,by simp[execOp,eqGuard,binOp,Op.shift,h1,h2,h3,hz],rfl,rfl⟩
theorem GV{x y:Operand}{t t':TypeId}{k k':IntKind}{a b z:Int}(hx:Lk Γ δ ρ x (CW (.int k a)))(hy:Lk Γ δ ρ y (CW (.int k' b)))(h0:0≤b)(hz:a.fdiv (2^min b.toNat k.bits)=z):
  OpOK P n ops Γ ρ δ τ ⟨some d,.binOp .shr t x y t',ty,pos,af,none⟩ .no (.c (CW (.int k z))) ET:=
 DE fun A c _ hr=>by
  have h1:=(hr x _ (by simp[Op.operands]) hx).1
  have h2:=(hr y _ (by simp[Op.operands]) hy).1
  have h3: ¬b<0:=by omega
  exact⟨.int k z,by simp[execOp,eqGuard,binOp,Op.shift,h1,h2,h3,hz],rfl,rfl⟩
theorem xr{tx0:Nat}{t t':TypeId}{k k':IntKind}{a b z:Int}(hx:DA δ ρ tx0=some (.c (CW (.int k a))))(h0:0≤b)(hz:a.fdiv (2^min b.toNat k.bits)=z):OpOK P n ops Γ ρ δ τ ⟨some d,.binOp .shr t (Operand.tmp tx0) (Operand.const (.int k' b)) t',ty,pos,af,none⟩ .no (.c (CW (.int k z))) ET:=by
 exact GV (.t hx) (.k rfl) h0 hz
def CT(op:BinOp)(a b:Int):Bool:=
 match op with
 | .eql=>a==b
 | .neq=>a !=b
 | .lss=>decide (a<b)
 | .leq=>decide (a≤b)
 | .gtr=>decide (b<a)
 |_=>decide (b≤a)
theorem yB{x y:Operand}{t t':TypeId}{op:BinOp}{k:IntKind}{a b:Int}{r:Bool}(hop:op= .eql∨op= .neq∨op= .lss∨op= .leq∨op= .gtr∨op= .geq)(hx:Lk Γ δ ρ x (CW (.int k a)))(hy:Lk Γ δ ρ y (CW (.int k b)))(hr:CT op a b=r):
  OpOK P n ops Γ ρ δ τ ⟨some d,.binOp op t x y t',ty,pos,af,none⟩ .no (.c (CW (.bool r))) ET:=
 DE fun A c _ hr'=>by
  have h1:=(hr' x _ (by simp[Op.operands]) hx).1
  have h2:=(hr' y _ (by simp[Op.operands]) hy).1
  refine⟨.bool r,?_,rfl,rfl⟩
  subst hr
  rcases hop with h|h|h|h|h|h<;>subst h<;>simp[execOp,eqGuard,binOp,Op.intCmp,h1,h2,CT]
def isC:BinOp→Bool
 | .eql| .neq| .lss| .leq| .gtr| .geq=>true
 |_=>false
theorem oc{x y:Operand}{t t':TypeId}{op:BinOp}{k:IntKind}{a b:Int}{r:Bool}(hop:isC op=true)(hx:Lk Γ δ ρ x (CW (.int k a)))(hy:Lk Γ δ ρ y (CW (.int k b)))(hr:CT op a b=r):OpOK P n ops Γ ρ δ τ ⟨some d,.binOp op t x y t',ty,pos,af,none⟩ .no (.c (CW (.bool r))) ET:=yB (by cases op<;>simp[isC]at hop⊢) hx hy hr
theorem xd{tx0:Nat}{t t':TypeId}{op:BinOp}{k:IntKind}{a b:Int}{r:Bool}(hop:(isC op,DA δ ρ tx0,CT op a b)=(true,some (.c (CW (.int k a))),r)):OpOK P n ops Γ ρ δ τ ⟨some d,.binOp op t (Operand.tmp tx0) (Operand.const (.int k b)) t',ty,pos,af,none⟩ .no (.c (CW (.bool r))) ET:=by
 simp only[Ai]at hop
 obtain⟨hop,hx,hr⟩:=hop
 exact oc hop (.t hx) (.k rfl) hr
theorem xw{tx0 ty0:Nat}{t t':TypeId}{op:BinOp}{k:IntKind}{a b:Int}{r:Bool}(hop:(isC op,DA δ ρ tx0,DA δ ρ ty0,CT op a b)=(true,some (.c (CW (.int k a))),some (.c (CW (.int k b))),r)):OpOK P n ops Γ ρ δ τ ⟨some d,.binOp op t (Operand.tmp tx0) (Operand.tmp ty0) t',ty,pos,af,none⟩ .no (.c (CW (.bool r))) ET:=by
 simp only[Ai]at hop
 obtain⟨hop,hx,hy,hr⟩:=hop
 exact oc hop (.t hx) (.t hy) hr
theorem bM{cx ax bx:Operand}{b1 b2 b3 r:Bool}(hc:Lk Γ δ ρ cx (CW (.bool b1)))(ha:b1=true→Lk Γ δ ρ ax (CW (.bool b2)))(hb:b1=false→Lk Γ δ ρ bx (CW (.bool b3)))(hr:cond b1 b2 b3=r):
  OpOK P n ops Γ ρ δ τ ⟨some d,.pick cx ax bx,ty,pos,af,none⟩ .no (.c (CW (.bool r))) ET:=
 DE fun A c _ hr'=>by
  have h1:=(hr' cx _ (by simp[Op.operands]) hc).1
  subst hr
  cases b1 with
  |true=>
   have h2:=(hr' ax _ (by simp[Op.operands]) (ha rfl)).1
   exact⟨.bool b2,by simp[execOp,asBool,h1,h2],rfl,rfl⟩
  |false=>
   have h2:=(hr' bx _ (by simp[Op.operands]) (hb rfl)).1
   exact⟨.bool b3,by simp[execOp,asBool,h1,h2],rfl,rfl⟩
theorem EO{cx ax:Operand}{b1 b2:Bool}(hc:Lk Γ δ ρ cx (CW (.bool b1)))(ha:b1=true→Lk Γ δ ρ ax (CW (.bool b2))):
  OpOK P n ops Γ ρ δ τ ⟨some d,.pick cx ax (.const (.bool false)),ty,pos,af,none⟩ .no (.c (CW (.bool (b1&&b2)))) ET:=
 bM (b3:=false) hc ha (fun _=>Lk.k rfl) (by cases b1<;>rfl)
theorem Fk{cx bx:Operand}{b1 b3:Bool}(hc:Lk Γ δ ρ cx (CW (.bool b1)))(hb:b1=false→Lk Γ δ ρ bx (CW (.bool b3))):
  OpOK P n ops Γ ρ δ τ ⟨some d,.pick cx (.const (.bool true)) bx,ty,pos,af,none⟩ .no (.c (CW (.bool (b1||b3)))) ET:=
 bM (b2:=true) hc (fun _=>Lk.k rfl) hb (by cases b1<;>rfl)
theorem yJ{x:Operand}{i:Nat}{ps:List SP}{p:SP}(hx:Lk Γ δ ρ x (EP ps))(hi:nth ps i=some p):OpOK P n ops Γ ρ δ τ ⟨some d,.extract x i,ty,pos,af,none⟩ .no (.c p) ET:=
 DE fun A c _ hr=>by
  obtain⟨vs,h1,h2⟩:=hr x _ (by simp[Op.operands]) hx
  obtain⟨v,h3,h4⟩:=h2.nth i p hi
  exact⟨v,by simp[execOp,Instr.extract,h1,h3],h4⟩
theorem xk{tx0:Nat}{i:Nat}{ps:List SP}{p:SP}(hx:(DA δ ρ tx0,nth ps i)=(some (.c (EP ps)),some p)):OpOK P n ops Γ ρ δ τ ⟨some d,.extract (Operand.tmp tx0) i,ty,pos,af,none⟩ .no (.c p) ET:=by
 simp only[Ai]at hx
 obtain⟨hx,hi⟩:=hx
 exact yJ (.t hx) hi
end ops
def KF(P:Program)(T:TypeId):Bool:=match P.underlying T,P.info? T with
 |some (.struct _),_=>false
 |some (.array _ _),_=>false
 |some _,some i=>Nat.beq i.size 1
 |_,_=>false
def MW(P:Program)(T:TypeId):Option Nat:=match P.underlying T,P.info? T with
 |some (.struct _),some i=>some i.size
 |some (.array _ _),some i=>some i.size
 |_,_=>none
def Iu(P:Program)(T:TypeId):Option (Nat×Nat×Nat):=match P.underlying T with
 |some (.slice E)=>(P.info? E).map fun i=>(E,i.size,i.bytes)
 |_=>none
def Gt(P:Program)(S i:Nat):Option (Nat×Nat):=match P.underlying S with
 |some (.struct fs)=>match fs[i]? with
  |some f=>match P.info? f.type with
   |some inf=>if inf.size=0 then none else some (f.offset,inf.size)
   |none=>none
  |none=>none
 |_=>none
def YH(P:Program)(S i:Nat):Option TypeId:=match P.underlying S with
 |some (.struct fs)=>(fs[i]?).map (·.type)
 |_=>none
def J5(P:Program)(T:TypeId):Option Nat:=(P.info? T).map (·.size)
def HC(P:Program)(T:TypeId):Option (List Value):=((P.info? T).bind (·.zero)).map (·.cells.toList)
section runs
variable {P:Program}
theorem Oj{T:TypeId}(h:KF P T=true)(w:World):(isAgg T).run P w= .ok false w:=by
 unfold KF at h
 unfold isAgg
 cases hu:P.underlying T with
 |none=>rw[hu]at h;cases h
 |some d=>
  rw[hu]at h
  simp only[Sem.run_bind,run_underlying hu,Result.andThen_ok]
  cases d<;>first|rfl|cases h
theorem Oi{T:TypeId}{m:Nat}(h:MW P T=some m)(w:World):(isAgg T).run P w= .ok true w:=by
 unfold MW at h
 unfold isAgg
 cases hu:P.underlying T with
 |none=>rw[hu]at h;cases h
 |some d=>
  rw[hu]at h
  simp only[Sem.run_bind,run_underlying hu,Result.andThen_ok]
  cases d<;>first|rfl|(cases hi:P.info? T<;>rw[hi]at h<;>cases h)
theorem nQ{T:TypeId}{m:Nat}(h:J5 P T=some m): ∃ i,P.info? T=some i∧i.size=m:=by
 unfold J5 at h
 cases hi:P.info? T with
 |none=>rw[hi]at h;cases h
 |some i=>rw[hi]at h;cases h;exact⟨i,rfl,rfl⟩
theorem Yn{T:TypeId}{m:Nat}(h:MW P T=some m):J5 P T=some m:=by
 unfold MW at h
 unfold J5
 split at h<;>first|(cases h;done)|skip
 all_goals (rename_i hi;cases h;simp[hi])
theorem Zn{T:TypeId}{m:Nat}(h:J5 P T=some m)(w:World):(sizeOf T).run P w= .ok m w:=by
 obtain⟨i,hi,hs⟩:=nQ h
 simp[sizeOf,typeInfo,hi,hs]
theorem Gb(b o k:Nat):(⟨b,o,none⟩:Addr).add k=⟨b,o+k,none⟩:=by
 unfold Addr.add
 split
 ·simp_all
 rfl
theorem LX{T:TypeId}(h:KF P T=true){w:World}{b off:Nat}{cur:Array Value}{U:TypeId}{fz:Nat×Nat}{u:Value}(hw:w.heap[b]? =some (.cells cur U fz))(hu:cur[off]? =some u):
  (Instr.loadAt T (.pointer (some ⟨b,off,none⟩))).run P w= .ok u w:=by
 have hc:w.cell? ⟨b,off,none⟩=some u:=by simp[World.cell?,hw,hu]
 simp only[Instr.loadAt,Instr.sureAddr,loadVar,Sem.run_bind,Sem.run_pure,Result.andThen_ok,Oj h,Cs,if_false,run_load,hc]
theorem LW{T:TypeId}{m:Nat}(h:MW P T=some m){w:World}{b off:Nat}{cur:Array Value}{U:TypeId}{fz:Nat×Nat}(hw:w.heap[b]? =some (.cells cur U fz))(hm:off+m≤cur.size):
  (Instr.loadAt T (.pointer (some ⟨b,off,none⟩))).run P w= .ok (.agg (cur.extract off (off+m))) w:=by
 have hl:=run_loadCells (P:=P) w ⟨b,off,none⟩ m (fun j=>cur.getD (off+j) undef) (fun j hj=>by
  rw[Gb]
  have:off+j<cur.size:=by omega
  simp[World.cell?,hw,this])
 have he:((List.range m).map fun j=>cur.getD (off+j) undef).toArray=cur.extract off (off+m):=by
  apply Array.ext
  ·simp;omega
  intro i h1 h2
  simp at h1
  have:off+i<cur.size:=by omega
  simp[this]
 rw[he]at hl
 simp only[Instr.loadAt,Instr.sureAddr,loadVar,Sem.run_bind,Sem.run_pure,Result.andThen_ok,Oi h,if_true,Zn (Yn h),hl]
theorem Ok{T:TypeId}{w:World}{b off:Nat}{cur:Array Value}{U:TypeId}{v:Value}{m:Nat}(hs:J5 P T=some m)(hw:w.heap[b]? =some (.cells cur U (0,0)))(hv:v.cells.size=m)(hm:off+m≤cur.size)(h1: ∀ u,u∈v.cells.toList→u.oneCell'=true):
  (Instr.storeAt T (.pointer (some ⟨b,off,none⟩)) v).run P w= .ok () (w.setRow b (cur.toList.take off++v.cells.toList++cur.toList.drop (off+m)).toArray):=by
 have hst:=run_storeCells_at P b off U v.cells.toList 0 cur w hw (by simp[hv];omega) h1
 simp only[Bx,Array.length_toList,hv]at hst
 simp only[Instr.storeAt,Instr.sureAddr,storeVar,Sem.run_bind,Sem.run_pure,Result.andThen_ok,Zn hs,hv,ne_eq,not_true_eq_false,if_false,hst]
end runs
def Hd(base:Value)(b:Nat):Prop:=base= .pointer (some ⟨b,0,none⟩)∨ ∃ n cap,base= .slice (some ⟨b,0,none⟩) n cap
theorem Hd.inj{base:Value}{b b':Nat}(h:Hd base b)(h':Hd base b'):b=b':=by
 rcases h with h|⟨n,cap,h⟩<;>rcases h' with h'|⟨n',cap',h'⟩<;>rw[h]at h'<;>cases h'<;>rfl
def uf(r:Res)(base:Value)(cells:List SP):Prop:= ∀ c ob,r.H c ob→ ∃ b cur U,Hd base b∧ob=only b∧c.w.heap[b]? =some (.cells cur U (0,0))∧CL cells cur 0 c
theorem zJ{base:Value}{cells:List SP}{T:TypeId}:uf (Dh base cells T) base cells:=fun c ob ⟨b,cur,h1,h2,h3,_,h5⟩=>⟨b,cur,T,.inl h1,h2,h3,h5⟩
theorem bq{sv:Value}{n k:Nat}{cells:List SP}{T:TypeId}(h0:0<n):uf (Za sv n k cells T) sv cells:=fun c ob ⟨_,h⟩=>by
 rcases h with ⟨_,h,_⟩|⟨b,cap,cur,h1,h2,h3,h4,h5,h6,h7⟩
 ·omega
 exact⟨b,cur,T,.inr ⟨n,cap,h1⟩,h2,h5,h7⟩
def ug(r:Res)(base:Value)(cells:List SP)(r':Res)(cells':List SP):Prop:= ∀ c ob,r.H c ob→ ∃ b cur U,Hd base b∧ob=only b∧c.w.heap[b]? =some (.cells cur U (0,0))∧CL cells cur 0 c∧cells.length≤cur.size∧
 ∀ c' cur',cur'.size=cur.size→c'.w.heap[b]? =some (.cells cur' U (0,0))→CL cells' cur' 0 c'→r'.H c' ob
theorem Ru{base:Value}{cells cells':List SP}{T:TypeId}(hl:cells'.length=cells.length):ug (Dh base cells T) base cells (Dh base cells' T) cells':=
 fun c ob ⟨b,cur,h1,h2,h3,h4,h5⟩=>⟨b,cur,T,.inl h1,h2,h3,h5,by omega,fun c' cur' hs hh hc=>⟨b,cur',h1,h2,hh,by omega,hc⟩⟩
theorem Rv{sv:Value}{n k:Nat}{cells cells':List SP}{T:TypeId}(h0:0<n)(hl:cells'.length=cells.length):ug (Za sv n k cells T) sv cells (Za sv n k cells' T) cells':=fun c ob ⟨hlen,h⟩=>by
 rcases h with ⟨_,h,_⟩|⟨b,cap,cur,h1,h2,h3,h4,h5,h6,h7⟩
 ·omega
 refine⟨b,cur,T,.inr ⟨n,cap,h1⟩,h2,h5,h7,?_,fun c' cur' hs hh hc=>⟨by omega,.inr ⟨b,cap,cur',h1,h2,h3,h4,hh,by omega,hc⟩⟩⟩
 rw[hlen,h6]
 exact Au k h3
def Yi(off:Nat)(l cells cells':List SP):Prop:=cells'.length=cells.length∧off+l.length≤cells.length∧ ∀ i,nth cells' i=if off≤i∧i<off+l.length then nth l (i-off)else nth cells i
theorem yU{off:Nat}{l cells cells':List SP}(h:PR off l cells=some cells')(hl:off+l.length≤cells.length):Yi off l cells cells':=by
 obtain⟨g1,g2,g3⟩:=Ms h
 exact⟨g1,hl,g3⟩
theorem Oe{off:Nat}{p:SP}{cells:List SP}(hl:off<cells.length):Yi off [p] cells (cells.set off p):=by
 refine⟨by simp,by simp;omega,fun i=>?_⟩
 rw[Dq,Cj]
 by_cases h:off=i
 ·subst h
  simp[hl,nth]
 rw[if_neg h,if_neg (by simp;omega),Dq]
theorem bS{off:Nat}{l cells cells':List SP}{cur:Array Value}{v:Value}{c c':EW}(hp:Yi off l cells cells')(hle:Le c c')(h:CL cells cur 0 c)(hl:cells.length≤cur.size)(hv:v.cells.size=l.length)(hc:CL l v.cells 0 c'):
  CL cells' (cur.toList.take off++v.cells.toList++cur.toList.drop (off+l.length)).toArray 0 c'∧(cur.toList.take off++v.cells.toList++cur.toList.drop (off+l.length)).toArray.size=cur.size:=by
 have hoff:off+l.length≤cur.size:=Ak hp.2.1 hl
 refine⟨fun i p hi=>?_,by simp[hv];omega⟩
 rw[hp.2.2 i]at hi
 simp only[Aq,Cy]
 have hlt:(cur.toList.take off).length=off:=by simp;omega
 have hlv:v.cells.toList.length=l.length:=by simp[hv]
 by_cases h1:off≤i∧i<off+l.length
 ·rw[if_pos h1]at hi
  obtain⟨u,hu,h2,h3⟩:=hc (i-off) p hi
  refine⟨u,?_,h2,h3⟩
  rw[AW (by rw[As,hlt,hlv];omega),Bp (by rw[hlt];omega),hlt]
  simpa using hu
 rw[if_neg h1]at hi
 obtain⟨u,hu,h2,h3⟩:=h i p hi
 refine⟨u,?_,h2,p.st _ _ _ hle h3⟩
 rw[Aq]at hu
 by_cases h4:i<off
 ·rw[AW (by rw[As,hlt,hlv];omega),AW (by rw[hlt];omega),B9,if_pos h4]
  simpa using hu
 rw[Bp (by rw[As,hlt,hlv];omega),As,hlt,hlv,AF]
 have e:off+l.length+(i-(off+l.length))=i:=by omega
 rw[e]
 simpa using hu
section ops
variable {P:Program} {n:Nat} {ops:Array Oper} {Γ:D2} {ρ:DU} {δ:DK} {τ:List VR}
variable {d:Nat} {ty:TypeId} {pos:String} {af:Array Edge}
theorem yC{x:Operand}{T:TypeId}{cells:List SP}{p:SP}(hT:KF P T=true)(hx:Lk Γ δ ρ x (Gf cells))(hp:nth cells 0=some p):
  OpOK P n ops Γ ρ δ τ ⟨some d,.load T x,ty,pos,af,none⟩ .no (.c p) ET:=
 DE fun a c _ hr=>by
  obtain⟨b,off,cur,U,fz,h1,h2,h3,h4⟩:=hr x _ (by simp[Op.operands]) hx
  obtain⟨u,hu,_,hpu⟩:=h4 0 p hp
  rw[Bx]at hu
  exact⟨u,by simp only[execOp,h1,Sem.run_bind,LX hT h3 hu,Result.andThen_ok,Sem.run_pure],hpu⟩
theorem xy{tx0:Nat}{T:TypeId}{cells:List SP}{p:SP}(hT:KF P T=true)(hx:(DA δ ρ tx0,nth cells 0)=(some (.c (Gf cells)),some p)):OpOK P n ops Γ ρ δ τ ⟨some d,.load T (Operand.tmp tx0),ty,pos,af,none⟩ .no (.c p) ET:=by
 simp only[Ai]at hx
 obtain⟨hx,hp⟩:=hx
 exact yC hT (.t hx) hp
theorem UX{cells cells':List SP}{o m off:Nat}{cur:Array Value}{c:EW}(hs:I3 o m cells=some cells')(h:CL cells cur off c)(hsz:off+o+m≤cur.size):CL cells' (cur.extract (off+o) (off+o+m)) 0 c:=by
 obtain⟨g1,g2,g3⟩:=Gz hs
 intro i p hi
 have him:i<m:=by
  rw[Dq]at hi
  have:=(AU.1 hi).1
  omega
 rw[g3 i him]at hi
 obtain⟨u,hu,h2,h3⟩:=h (o+i) p hi
 refine⟨u,?_,h2,h3⟩
 rw[Aq,Array.getElem?_extract,if_pos (by omega),←hu]
 congr 1
 omega
theorem CL.room{l:List SP}{cur:Array Value}{off:Nat}{c:EW}(h:CL l cur off c){o m:Nat}(hm:0<m)(hl:o+m≤l.length):off+o+m≤cur.size:=by
 have hlt:o+m-1<l.length:=by omega
 obtain⟨u,hu,_⟩:=h (o+m-1) l[o+m-1] (by rw[Dq];exact Ag hlt)
 have:=(BA.1 hu).1
 omega
theorem DB{x:Operand}{T m:Nat}{cells cells':List SP}(hT:MW P T=some m)(hx:Lk Γ δ ρ x (Gf cells))(hs:I3 0 m cells=some cells')(hm:Nat.blt 0 m=true):
  OpOK P n ops Γ ρ δ τ ⟨some d,.load T x,ty,pos,af,none⟩ .no (.c (DL cells')) ET:=
 DE fun a c _ hr=>by
  obtain⟨b,off,cur,U,fz,h1,h2,h3,h4⟩:=hr x _ (by simp[Op.operands]) hx
  obtain⟨g1,g2,_⟩:=Gz hs
  have hroom:=h4.room (o:=0) (m:=m) (HE hm) g2
  have hrun:=LW (off:=off) hT h3 (by omega)
  refine⟨.agg (cur.extract off (off+m)),by simp only[execOp,h1,Sem.run_bind,hrun,Result.andThen_ok,Sem.run_pure],_,rfl,?_,?_⟩
  ·simp;omega
  exact UX hs h4 hroom
theorem Mq{op:Op}{k:Nat}{r:Res}{p:SP}(hk:nth τ k=some (.c r))
  (h: ∀ (a:Act) (c:EW) (ob:Bs),FH Γ c→(∀ x q,x∈op.operands→Lk Γ δ ρ x q→q.H (a.eval x) c)→r.H c ob→ ∃ v,(execOp a.eval ⟨some d,op,ty,pos,af,none⟩).run P c.w= .ok (.value v) c.w∧p.H v c):
  OpOK P n ops Γ ρ δ τ ⟨some d,op,ty,pos,af,none⟩ (.rd k) (.c p) ET:=by
 intro a c ob hs hwf hf hr hres hno _
 obtain⟨r',hr',hh⟩:=hres k rfl
 rw[hk]at hr'
 cases hr'
 obtain⟨v,hv,hp⟩:=h a c ob hf (fun x q hx hq=>Lk.val (o:=⟨some d,op,ty,pos,af,none⟩) hr hf hx hq) hh
 simp only[Region.wanted,if_true]
 unfold GP
 rw[hv]
 exact⟨c,ob,rfl,Tr.refl hwf,hp,fun h=>(by cases h)⟩
theorem zN{x:Operand}{T:TypeId}{base:Value}{off:Nat}(k:Nat){r:Res}{cells:List SP}{p:SP}(hT:KF P T=true)(hx:Lk Γ δ ρ x (DW base off))(hk:nth τ k=some (.c r))(hm:uf r base cells)(hp:nth cells off=some p):
  OpOK P n ops Γ ρ δ τ ⟨some d,.load T x,ty,pos,af,none⟩ (.rd k) (.c p) ET:=
 Mq hk fun a c ob _ hr hh=>by
  obtain⟨b,hb,hv⟩:=hr x _ (by simp[Op.operands]) hx
  obtain⟨b',cur,U,h1,h2,h3,h4⟩:=hm c ob hh
  have:=Hd.inj hb h1
  subst this
  obtain⟨u,hu,_,hpu⟩:=h4 off p hp
  rw[Aq]at hu
  exact⟨u,by simp only[execOp,hv,Sem.run_bind,LX hT h3 hu,Result.andThen_ok,Sem.run_pure],hpu⟩
theorem xf{tx0:Nat}{T:TypeId}{base:Value}{off:Nat}(k:Nat){r:Res}{cells:List SP}{p:SP}(hT:KF P T=true)(hx:(DA δ ρ tx0,nth τ k)=(some (.c (DW base off)),some (.c r)))(hm:uf r base cells)(hp:nth cells off=some p):OpOK P n ops Γ ρ δ τ ⟨some d,.load T (Operand.tmp tx0),ty,pos,af,none⟩ (.rd k) (.c p) ET:=by
 simp only[Ai]at hx
 obtain⟨hx,hk⟩:=hx
 exact zN k hT (.t hx) hk hm hp
theorem yI{x:Operand}{T m:Nat}{base:Value}{off:Nat}(k:Nat){r:Res}{cells cells':List SP}(hT:MW P T=some m)(hx:Lk Γ δ ρ x (DW base off))(hk:nth τ k=some (.c r))(hme:uf r base cells)(hs:I3 off m cells=some cells')(hm:Nat.blt 0 m=true):
  OpOK P n ops Γ ρ δ τ ⟨some d,.load T x,ty,pos,af,none⟩ (.rd k) (.c (DL cells')) ET:=
 Mq hk fun a c ob _ hr hh=>by
  obtain⟨b,hb,hv⟩:=hr x _ (by simp[Op.operands]) hx
  obtain⟨b',cur,U,h1,h2,h3,h4⟩:=hme c ob hh
  have:=Hd.inj hb h1
  subst this
  obtain⟨g1,g2,_⟩:=Gz hs
  have hroom:=h4.room (HE hm) g2
  have hrun:=LW (off:=off) hT h3 (by omega)
  refine⟨.agg (cur.extract off (off+m)),by simp only[execOp,hv,Sem.run_bind,hrun,Result.andThen_ok,Sem.run_pure],_,rfl,?_,?_⟩
  ·simp;omega
  have:=UX hs h4 hroom
  simpa using this
theorem xc{tx0:Nat}{T m:Nat}{base:Value}{off:Nat}(k:Nat){r:Res}{cells cells':List SP}(hT:MW P T=some m)(hx:(DA δ ρ tx0,nth τ k)=(some (.c (DW base off)),some (.c r)))(hme:uf r base cells)(hs:(I3 off m cells,Nat.blt 0 m)=(some cells',true)):OpOK P n ops Γ ρ δ τ ⟨some d,.load T (Operand.tmp tx0),ty,pos,af,none⟩ (.rd k) (.c (DL cells')) ET:=by
 simp only[Ai]at hx
 obtain⟨hx,hk⟩:=hx
 simp only[Ai]at hs
 obtain⟨hs,hm⟩:=hs
 exact yI k hT (.t hx) hk hme hs hm
theorem Z8{x:Operand}{t:TypeId}{sv:Value}{m kk:Nat}(k:Nat){cells:List SP}{T E:Nat}{es eb:Nat}(ht:Iu P t=some (E,es,eb))(hx:Lk Γ δ ρ x (CW sv))(hk:nth τ k=some (.c (Za sv m kk cells T))):
  OpOK P n ops Γ ρ δ τ ⟨some d,.call ⟨.builtin .len,#[x],#[t]⟩,ty,pos,af,none⟩ (.rd k) (.c (I6 (m:Int))) ET:=
 Mq hk fun a c ob _ hr hh=>by
  have hv:=(hr x _ (by simp[Op.operands,Call.operands]) hx).1
  have hu: ∃ e,P.underlying t=some (.slice e):=by
   unfold Iu at ht
   split at ht
   ·rename_i e he;exact⟨e,he⟩
   cases ht
  obtain⟨e,he⟩:=hu
  have hsv: ∃ ad cap,sv= .slice ad m cap:=by
   rcases hh.2 with ⟨h1,h2,_⟩|⟨b,cap,cur,h1,_⟩
   ·exact⟨none,0,by rw[h1,h2]⟩
   exact⟨_,cap,h1⟩
  obtain⟨ad,cap,hsv⟩:=hsv
  refine⟨.int .i64 m,?_,rfl,rfl⟩
  simp[execOp,resolve,invoke,builtin,Builtin.len_,hv,hsv,run_underlying he,goInt]
theorem Kz{x y:Operand}{T:TypeId}{base:Value}{off:Nat}(k:Nat){r r':Res}{p:SP}{l cells cells':List SP}(hx:Lk Γ δ ρ x (DW base off))(hy:Lk Γ δ ρ y p)(hc:F8 p l)(hT:J5 P T=some l.length)
  (hk:nth τ k=some (.c r)) (hp:Yi off l cells cells') (hm:ug r base cells r' cells'):
  OpOK P n ops Γ ρ δ τ ⟨none,.store T x y,ty,pos,af,none⟩ (.wr k) (.c Ge) (.c r'):=by
 intro a c ob hs hwf hf hr hres hno hown
 obtain⟨r0,hr0,hh⟩:=hres k rfl
 rw[hk]at hr0
 cases hr0
 obtain⟨b,hb,hv⟩:=Lk.val (o:=⟨none,.store T x y,ty,pos,af,none⟩) hr hf (x:=x) (by simp[Op.operands]) hx
 have hpv:=Lk.val (o:=⟨none,.store T x y,ty,pos,af,none⟩) hr hf (x:=y) (by simp[Op.operands]) hy
 obtain⟨b',cur,U,h1,h2,h3,h4,h5,h6⟩:=hm c ob hh
 have:=Hd.inj hb h1
 subst this
 obtain⟨g1,g2⟩:=hc _ c hpv
 have hone: ∀ u,u∈(a.eval y).cells.toList→u.oneCell'=true:=fun u hu=>by
  obtain⟨i,hi,hiu⟩:=List.mem_iff_getElem.1 hu
  have hil:i<l.length:=by
   have:i<(a.eval y).cells.size:=by simpa using hi
   omega
  obtain⟨u',hu',h7,_⟩:=g2 i l[i] (by rw[Dq];exact Ag hil)
  rw[Aq]at hu'
  have:(a.eval y).cells[i]? =some u:=by
   rw[←Cf,Ag hi,hiu]
  rw[this]at hu'
  cases hu'
  exact h7
 have hrun:=Ok (P:=P) hT h3 g1 (Ak hp.2.1 h5) hone
 simp only[Region.wanted,if_true]
 unfold GP
 have hex:(execOp a.eval ⟨none,.store T x y,ty,pos,af,none⟩).run P c.w= .ok .skip (c.w.setRow b (cur.toList.take off++(a.eval y).cells.toList++cur.toList.drop (off+l.length)).toArray):=by
  simp only[execOp,hv,Sem.run_bind,hrun,Result.andThen_ok,Sem.run_pure]
 rw[hex]
 have hbM:=hown b (kK h2)
 let c':EW:=⟨c.w.setRow b (cur.toList.take off++(a.eval y).cells.toList++cur.toList.drop (off+l.length)).toArray,c.M⟩
 have htr:Tr c ob true c' ob:=by
  refine⟨rfl,rfl,rfl,by simp[c',World.setRow],fun j hj hne=>?_,fun _ _=>⟨id,.inl⟩,.inl rfl,fun j hj=>by simp[c',World.setRow];exact hwf j hj⟩
  exact setRow_other c.w b j _ (fun e=>hne rfl (by rw[h2,e];rfl))
 have hle:Le c c':=htr.le fun b hb=>(hown b hb).1
 obtain⟨q1,q2⟩:=bS hp hle h4 h5 g1 (g2.st hle)
 exact⟨c',ob,rfl,htr,trivial,fun _=>h6 c' _ q2 (setRow_heap c.w b cur _ U (0,0) h3) q1⟩
theorem Uk{w:World}{M:Nat→Prop}(hwf: ∀ k,M k→k<w.heap.size){cells:List SP}{cur:Array Value}{T:TypeId}(hsz:cur.size=cells.length)(hcl:CL cells cur 0 ⟨w,M⟩):
  let c':EW:=⟨w.alloc (.cells cur T),fun k=>M k∨k=w.heap.size⟩
  Tr ⟨w,M⟩ Ix true c' (only w.heap.size)∧(Dh (.pointer (some ⟨w.heap.size,0,none⟩)) cells T).H c' (only w.heap.size):=by
 have htr:Tr ⟨w,M⟩ Ix true ⟨w.alloc (.cells cur T),fun k=>M k∨k=w.heap.size⟩ (only w.heap.size):=by
  refine⟨rfl,rfl,rfl,by simp,fun j hj _=>heap_alloc_old w _ j hj,fun j hj=>⟨fun h=>h.resolve_right (by simp at hj;omega),fun h=> .inl (.inl h)⟩,.inr ⟨rfl,fun b hb=> .inr (by rw[show b=_ from hb];exact⟨A5 _,.inr rfl⟩)⟩,fun j hj=>?_⟩
  have e:(w.alloc (.cells cur T)).heap.size=w.heap.size+1:=by simp
  rw[e]
  rcases hj with h|h
  ·have:=hwf j h;omega
  omega
 exact⟨htr,w.heap.size,cur,rfl,rfl,heap_alloc_new w _,hsz,hcl.st (htr.le (fun _ h=>by cases h))⟩
def J6(d:Nat):VE:= .d [d] (fun f=>DW (f d) 0) (fun f g h=>by rw[h d (AE.2 rfl)])
def Jr(d:Nat)(cells:List SP)(T:TypeId):VR:= .d [d] (fun f=>Dh (f d) cells T) (fun f g h=>by rw[h d (AE.2 rfl)])
theorem vN{x:Operand}{T:TypeId}(k:Nat){p:SP}{l:List SP}(hx:Lk Γ δ ρ x p)(hc:F8 p l)(hk:nth τ k=some (.c emp)):
  OpOK P n ops Γ ρ δ τ ⟨some d,.box T x,ty,pos,af,none⟩ (.wr k) (J6 d) (Jr d l T):=by
 intro a c ob hs hwf hf hr hres hno hown
 obtain⟨r0,hr0,hh⟩:=hres k rfl
 rw[hk]at hr0
 cases hr0
 have hob:ob=Ix:=hh
 subst hob
 have hpv:=Lk.val (o:=⟨some d,.box T x,ty,pos,af,none⟩) hr hf (x:=x) (by simp[Op.operands]) hx
 obtain⟨g1,g2⟩:=hc _ c hpv
 simp only[Region.wanted,if_true]
 unfold GP
 have hex:(execOp a.eval ⟨some d,.box T x,ty,pos,af,none⟩).run P c.w= .ok (.value (.pointer (some ⟨c.w.heap.size,0,none⟩))) (c.w.alloc (.cells (a.eval x).cells T)):=rfl
 rw[hex]
 obtain⟨h1,h2⟩:=Uk (w:=c.w) (M:=c.M) hwf (T:=T) g1 g2
 refine⟨_,_,rfl,h1,?_,fun _=>?_⟩
 ·simp only[J6,VE.at,FK]
  exact⟨c.w.heap.size,.inl rfl,rfl⟩
 simp only[Jr,VR.at,FK]
 exact h2
theorem xa{tx0:Nat}{T:TypeId}(k:Nat){p:SP}{l:List SP}(hx:DA δ ρ tx0=some (.c p))(hc:F8 p l)(hk:nth τ k=some (.c emp)):OpOK P n ops Γ ρ δ τ ⟨some d,.box T (Operand.tmp tx0),ty,pos,af,none⟩ (.wr k) (J6 d) (Jr d l T):=by
 exact vN k (.t hx) hc hk
theorem yT{T:TypeId}(k:Nat){zs:List Value}(hz:HC P T=some zs)(h1:zs.all (·.oneCell')=true)(hk:nth τ k=some (.c emp)):
  OpOK P n ops Γ ρ δ τ ⟨some d,.alloc T,ty,pos,af,none⟩ (.wr k) (J6 d) (Jr d (zs.map CW) T):=by
 intro a c ob hs hwf hf hr hres hno hown
 obtain⟨r0,hr0,hh⟩:=hres k rfl
 rw[hk]at hr0
 cases hr0
 have hob:ob=Ix:=hh
 subst hob
 simp only[Region.wanted,if_true]
 unfold GP
 unfold HC at hz
 cases hi:P.info? T with
 |none=>rw[hi]at hz;cases hz
 |some i=>
  rw[hi]at hz
  simp only[BT]at hz
  cases hzz:i.zero with
  |none=>rw[hzz]at hz;cases hz
  |some z=>
   rw[hzz]at hz
   simp only[AL,Ah]at hz
   have hex:(execOp a.eval ⟨some d,.alloc T,ty,pos,af,none⟩).run P c.w= .ok (.value (.pointer (some ⟨c.w.heap.size,0,none⟩))) (c.w.alloc (.cells z.cells T)):=by
    simp[execOp,Instr.alloc,zeroValue,typeInfo,hi,hzz,newVar,newRow]
   rw[hex]
   have hsz:z.cells.size=(zs.map CW).length:=by rw[←hz];simp
   have hcl:CL (zs.map CW) z.cells 0 ⟨c.w,c.M⟩:=fun i p hp=>by
    rw[Dq,AC]at hp
    cases hu:zs[i]? with
    |none=>rw[hu]at hp;cases hp
    |some u=>
     rw[hu]at hp
     cases hp
     have h1u:u.oneCell'=true:=(B1.1 h1) u (Bh hu)
     refine⟨u,?_,h1u,rfl,h1u⟩
     rw[←hz,Cf]at hu
     simpa using hu
   obtain⟨h1,h2⟩:=Uk (w:=c.w) (M:=c.M) hwf (T:=T) hsz hcl
   refine⟨_,_,rfl,h1,?_,fun _=>?_⟩
   ·simp only[J6,VE.at,FK]
    exact⟨c.w.heap.size,.inl rfl,rfl⟩
   simp only[Jr,VR.at,FK]
   exact h2
theorem xj{T:TypeId}(k:Nat){zs:List Value}(hz:HC P T=some zs)(h1:(zs.all (·.oneCell'),nth τ k)=(true,some (.c emp))):OpOK P n ops Γ ρ δ τ ⟨some d,.alloc T,ty,pos,af,none⟩ (.wr k) (J6 d) (Jr d (zs.map CW) T):=by
 simp only[Ai]at h1
 obtain⟨h1,hk⟩:=h1
 exact yT k hz h1 hk
theorem O7{t:Nat}{y:Operand}{T:TypeId}(k:Nat){T':TypeId}{p:SP}{l cells:List SP}(hx:DA δ ρ t=some (J6 t))(hy:Lk Γ δ ρ y p)(hc:F8 p l)(hT:J5 P T=some l.length)
  (hk:nth τ k=some (Jr t cells T')) (hl:Nat.beq cells.length l.length=true):
  OpOK P n ops Γ ρ δ τ ⟨none,.store T (.tmp t) y,ty,pos,af,none⟩ (.wr k) (.c Ge) (Jr t l T'):=by
 have hl':=Bj hl
 intro a c ob hs hwf hf hr hres hno hown
 obtain⟨r0,hr0,hh⟩:=hres k rfl
 rw[hk]at hr0
 cases hr0
 have hpt:=hr t (B3 _ (BM.2 ⟨.tmp t,by simp[Op.operands],rfl⟩)) _ hx
 obtain⟨b,hb,hv⟩:=hpt
 have hpv:=Lk.val (o:=⟨none,.store T (.tmp t) y,ty,pos,af,none⟩) hr hf (x:=y) (by simp[Op.operands]) hy
 obtain⟨b',cur,h1,h2,h3,h4,h5⟩:=hh
 have:b=b':=Hd.inj hb (.inl h1)
 subst this
 obtain⟨g1,g2⟩:=hc _ c hpv
 have hone: ∀ u,u∈(a.eval y).cells.toList→u.oneCell'=true:=fun u hu=>by
  obtain⟨i,hi,hiu⟩:=List.mem_iff_getElem.1 hu
  have hil:i<l.length:=by
   have:i<(a.eval y).cells.size:=by simpa using hi
   omega
  obtain⟨u',hu',h7,_⟩:=g2 i l[i] (by rw[Dq];exact Ag hil)
  rw[Aq]at hu'
  have:(a.eval y).cells[i]? =some u:=by
   rw[←Cf,Ag hi,hiu]
  rw[this]at hu'
  cases hu'
  exact h7
 have hrun:=Ok (P:=P) (off:=0) hT h3 g1 (by omega) hone
 simp only[Region.wanted,if_true]
 unfold GP
 have hv':a.eval (.tmp t)= .pointer (some ⟨b,0,none⟩):=hv
 have hex:(execOp a.eval ⟨none,.store T (.tmp t) y,ty,pos,af,none⟩).run P c.w= .ok .skip (c.w.setRow b (cur.toList.take 0++(a.eval y).cells.toList++cur.toList.drop (0+l.length)).toArray):=by
  simp only[execOp,hv',Sem.run_bind,hrun,Result.andThen_ok,Sem.run_pure]
 rw[hex]
 let c':EW:=⟨c.w.setRow b (cur.toList.take 0++(a.eval y).cells.toList++cur.toList.drop (0+l.length)).toArray,c.M⟩
 have htr:Tr c ob true c' ob:=by
  refine⟨rfl,rfl,rfl,by simp[c',World.setRow],fun j hj hne=>?_,fun _ _=>⟨id,.inl⟩,.inl rfl,fun j hj=>by simp[c',World.setRow];exact hwf j hj⟩
  exact setRow_other c.w b j _ (fun e=>hne rfl (by rw[h2,e];rfl))
 have hle:Le c c':=htr.le fun b hb=>(hown b hb).1
 have hput:Yi 0 l cells l:=⟨by omega,by omega,fun i=>by
  by_cases hi:i<l.length
  ·rw[if_pos (by omega),Nat.sub_zero]
  rw[if_neg (by omega),Dq,Dq,AT (by omega),AT (by omega)]⟩
 obtain⟨q1,q2⟩:=bS hput hle h5 (by omega) g1 (g2.st hle)
 exact⟨c',ob,rfl,htr,trivial,fun _=>⟨b,_,h1,h2,setRow_heap c.w b cur _ T' (0,0) h3,by omega,q1⟩⟩
theorem xm{ty0:Nat}{t:Nat}{T:TypeId}(k:Nat){T':TypeId}{p:SP}{l cells:List SP}(hx:(DA δ ρ t,DA δ ρ ty0)=(some (J6 t),some (.c p)))(hc:F8 p l)(hT:J5 P T=some l.length)(hk:(nth τ k,Nat.beq cells.length l.length)=(some (Jr t cells T'),true)):OpOK P n ops Γ ρ δ τ ⟨none,.store T (.tmp t) (Operand.tmp ty0),ty,pos,af,none⟩ (.wr k) (.c Ge) (Jr t l T'):=by
 simp only[Ai]at hx
 obtain⟨hx,hy⟩:=hx
 simp only[Ai]at hk
 obtain⟨hk,hl⟩:=hk
 exact O7 k hx (.t hy) hc hT hk hl
end ops
theorem Qd{α β:Type}(f:α→β)(l:List α)(i:Nat):nth (l.map f) i=(nth l i).map f:=by simp[Dq]
theorem RE{α:Type}{l:List α}{i:Nat}(d:α)(h:i<l.length):nth l i=some (l.getD i d):=by
 rw[Dq,Ag h];simp[List.getD,Ag h]
theorem Ho{α:Type}{l:List α}{i:Nat}{x:α}(h:nth l i=some x):i<l.length:=by
 rw[Dq]at h;exact(AU.1 h).1
section ops
variable {P:Program} {n:Nat} {ops:Array Oper} {Γ:D2} {ρ:DU} {δ:DK} {τ:List VR}
variable {d:Nat} {ty:TypeId} {pos:String} {af:Array Edge}
theorem PF{S i o m:Nat}(h:Gt P S i=some (o,m))(w:World)(b off:Nat):
  (Instr.fieldAt S (.pointer (some ⟨b,off,none⟩)) i).run P w= .ok (.pointer (some ⟨b,off+o,none⟩)) w:=by
 unfold Gt at h
 cases hu:P.underlying S with
 |none=>rw[hu]at h;cases h
 |some D=>
  rw[hu]at h
  cases D<;>first|(cases h;done)|skip
  rename_i fs
  simp only at h
  cases hf:fs[i]? with
  |none=>rw[hf]at h;cases h
  |some f=>
   rw[hf]at h
   simp only at h
   cases hi:P.info? f.type with
   |none=>rw[hi]at h;cases h
   |some inf=>
    rw[hi]at h
    simp only at h
    by_cases h0:inf.size=0
    ·rw[if_pos h0]at h;cases h
    rw[if_neg h0]at h
    cases h
    simp[Instr.fieldAt,run_underlying hu,hf,Instr.sureAddr,fieldPlace,sizeOf,typeInfo,hi,h0,Gb]
theorem yR{x:Operand}{S i o m:Nat}{cells cells':List SP}(hF:Gt P S i=some (o,m))(hx:Lk Γ δ ρ x (Gf cells))(hs:I3 o m cells=some cells'):
  OpOK P n ops Γ ρ δ τ ⟨some d,.fieldAddr S x i,ty,pos,af,none⟩ .no (.c (Gf cells')) ET:=
 DE fun a c _ hr=>by
  obtain⟨b,off,cur,U,fz,h1,h2,h3,h4⟩:=hr x _ (by simp[Op.operands]) hx
  obtain⟨g1,g2,g3⟩:=Gz hs
  refine⟨.pointer (some ⟨b,off+o,none⟩),by simp only[execOp,h1,Sem.run_bind,PF hF,Result.andThen_ok,Sem.run_pure],b,off+o,cur,U,fz,rfl,h2,h3,fun j p hp=>?_⟩
  have hj:=Ho hp
  rw[g3 j (by omega)]at hp
  obtain⟨u,hu,h5,h6⟩:=h4 (o+j) p hp
  exact⟨u,by rw[←hu];congr 1;omega,h5,h6⟩
theorem xF{tx0:Nat}{S i o m:Nat}{cells cells':List SP}(hF:Gt P S i=some (o,m))(hx:(DA δ ρ tx0,I3 o m cells)=(some (.c (Gf cells)),some cells')):OpOK P n ops Γ ρ δ τ ⟨some d,.fieldAddr S (Operand.tmp tx0) i,ty,pos,af,none⟩ .no (.c (Gf cells')) ET:=by
 simp only[Ai]at hx
 obtain⟨hx,hs⟩:=hx
 exact yR hF (.t hx) hs
theorem zI{x:Operand}{S i o m o' off:Nat}{base:Value}(hF:Gt P S i=some (o,m))(hx:Lk Γ δ ρ x (DW base off))(ho:off+o=o'):
  OpOK P n ops Γ ρ δ τ ⟨some d,.fieldAddr S x i,ty,pos,af,none⟩ .no (.c (DW base o')) ET:=
 DE fun a c _ hr=>by
  subst ho
  obtain⟨b,hb,hv⟩:=hr x _ (by simp[Op.operands]) hx
  exact⟨.pointer (some ⟨b,off+o,none⟩),by simp only[execOp,hv,Sem.run_bind,PF hF,Result.andThen_ok,Sem.run_pure],b,hb,rfl⟩
theorem xe{tx0:Nat}{S i o m o' off:Nat}{base:Value}(hF:Gt P S i=some (o,m))(hx:(DA δ ρ tx0,off+o)=(some (.c (DW base off)),o')):OpOK P n ops Γ ρ δ τ ⟨some d,.fieldAddr S (Operand.tmp tx0) i,ty,pos,af,none⟩ .no (.c (DW base o')) ET:=by
 simp only[Ai]at hx
 obtain⟨hx,ho⟩:=hx
 exact zI hF (.t hx) ho
theorem Ur{x:Operand}{S i o m T:Nat}{cells:List SP}{p:SP}(hF:Gt P S i=some (o,m))(hT:YH P S i=some T)(hsc:KF P T=true)(hx:Lk Γ δ ρ x (DL cells))(hp:nth cells o=some p):
  OpOK P n ops Γ ρ δ τ ⟨some d,.field S x i,ty,pos,af,none⟩ .no (.c p) ET:=
 DE fun a c _ hr=>by
  obtain⟨cs,h1,h2,h3⟩:=hr x _ (by simp[Op.operands]) hx
  obtain⟨u,hu,h4,h5⟩:=h3 o p hp
  rw[Aq]at hu
  refine⟨u,?_,h5⟩
  unfold Gt at hF
  unfold YH at hT
  cases hU:P.underlying S with
  |none=>rw[hU]at hF;cases hF
  |some D=>
   rw[hU]at hF hT
   cases D<;>first|(cases hF;done)|skip
   rename_i fs
   simp only at hF hT
   cases hf:fs[i]? with
   |none=>rw[hf]at hF;cases hF
   |some f=>
    rw[hf]at hF hT
    simp only[AL,Ah]at hT
    subst hT
    have ho:f.offset=o:=by
     simp only at hF
     split at hF
     ·split at hF
      ·cases hF
      cases hF;rfl
     cases hF
    subst ho
    simp[execOp,Instr.field,run_underlying hU,hf,h1,asAgg,part,Oj hsc,hu]
theorem Ll{T E es eb:Nat}(h:Iu P T=some (E,es,eb)):P.underlying T=some (.slice E)∧ ∃ i,P.info? E=some i∧i.size=es∧i.bytes=eb:=by
 unfold Iu at h
 split at h
 ·rename_i e he
  cases hi:P.info? e with
  |none=>rw[hi]at h;cases h
  |some i=>rw[hi]at h;cases h;exact⟨he,i,hi,rfl,rfl⟩
 cases h
theorem Z7{x:Operand}{t:TypeId}{m kk:Nat}{cells:List SP}{E es eb:Nat}(ht:Iu P t=some (E,es,eb))(hx:Lk Γ δ ρ x (Mv m kk cells)):
  OpOK P n ops Γ ρ δ τ ⟨some d,.call ⟨.builtin .len,#[x],#[t]⟩,ty,pos,af,none⟩ .no (.c (I6 (m:Int))) ET:=
 DE fun a c _ hr=>by
  obtain⟨_,hv⟩:=hr x _ (by simp[Op.operands,Call.operands]) hx
  have hsv: ∃ ad cap,a.eval x= .slice ad m cap:=by
   rcases hv with ⟨h1,h2⟩|⟨ad,cap,h1,_⟩
   ·exact⟨none,0,by rw[h1,h2]⟩
   exact⟨_,cap,h1⟩
  obtain⟨ad,cap,hsv⟩:=hsv
  refine⟨.int .i64 m,?_,rfl,rfl⟩
  simp[execOp,resolve,invoke,builtin,Builtin.len_,hsv,run_underlying (Ll ht).1,goInt]
theorem K3{T E es eb:Nat}(ht:Iu P T=some (E,es,eb))(w:World){b off len cap:Nat}{k:IntKind}{z:Int}(h0:0≤z)(h1:z<(len:Int)):
  (Instr.indexAt T (.slice (some ⟨b,off,none⟩) len cap) (.int k z)).run P w= .ok (.pointer (some ⟨b,off+z.toNat*es,none⟩)) w:=by
 obtain⟨hu,i,hi,hs,_⟩:=Ll ht
 simp[Instr.indexAt,asIntOf,run_underlying hu,h0,h1,sizeOf,typeInfo,hi,hs,Gb]
theorem lv{x y:Operand}{T:TypeId}{E eb:Nat}{k:IntKind}{z:Int}{m:Nat}{cells:List SP}{p:SP}(ht:Iu P T=some (E,1,eb))(hx:Lk Γ δ ρ x (Mv m 1 cells))(hy:Lk Γ δ ρ y (CW (.int k z)))(h0:0≤z)(hp:nth cells z.toNat=some p):
  OpOK P n ops Γ ρ δ τ ⟨some d,.indexAddr T x y,ty,pos,af,none⟩ .no (.c (Gf [p])) ET:=
 DE fun a c _ hr=>by
  obtain⟨hl,hv⟩:=hr x _ (by simp[Op.operands]) hx
  have hz:=(hr y _ (by simp[Op.operands]) hy).1
  have hzl:=Ho hp
  rcases hv with ⟨h1,h2⟩|⟨ad,cap,h1,h2,h3,h4⟩
  ·subst h2;omega
  have hm:m=cells.length:=by omega
  rcases h4 with h4|⟨b,off,ha,h4,cur,U,fz,h5,h6⟩
  ·omega
  subst ha
  have hrun:=K3 (P:=P) ht c.w (b:=b) (off:=off) (len:=m) (cap:=cap) (k:=k) (z:=z) h0 (by omega)
  refine⟨.pointer (some ⟨b,off+z.toNat*1,none⟩),by simp only[execOp,h1,hz,Sem.run_bind,hrun,Result.andThen_ok,Sem.run_pure],b,off+z.toNat*1,cur,U,fz,rfl,h4,h5,fun j q hq=>?_⟩
  have hj:j=0:=by have:=Ho hq;simp at this;omega
  subst hj
  simp only[nth,Ah]at hq
  subst hq
  obtain⟨u,hu,g⟩:=h6 z.toNat p hp
  exact⟨u,by simpa using hu,g⟩
theorem Z6{x y:Operand}{T:TypeId}{E es eb:Nat}{k:IntKind}{z:Int}{m:Nat}{cells cells':List SP}(ht:Iu P T=some (E,es,eb))(hx:Lk Γ δ ρ x (Mv m es cells))(hy:Lk Γ δ ρ y (CW (.int k z)))(h0:0≤z)(h1:z<m)(hp: ∀ j p,nth cells' j=some p→nth cells (z.toNat*es+j)=some p):
  OpOK P n ops Γ ρ δ τ ⟨some d,.indexAddr T x y,ty,pos,af,none⟩ .no (.c (Gf cells')) ET:=
 DE fun a c _ hr=>by
  obtain⟨hl,hv⟩:=hr x _ (by simp[Op.operands]) hx
  have hz:=(hr y _ (by simp[Op.operands]) hy).1
  rcases hv with ⟨h1',h2⟩|⟨ad,cap,h1',h2,h3,h4⟩
  ·subst h2;omega
  rcases h4 with h4|⟨b,off,ha,h4,cur,U,fz,h5,h6⟩
  ·omega
  subst ha
  have hrun:=K3 (P:=P) ht c.w (b:=b) (off:=off) (len:=m) (cap:=cap) (k:=k) (z:=z) h0 h1
  refine⟨.pointer (some ⟨b,off+z.toNat*es,none⟩),by simp only[execOp,h1',hz,Sem.run_bind,hrun,Result.andThen_ok,Sem.run_pure],b,off+z.toNat*es,cur,U,fz,rfl,h4,h5,fun j q hq=>?_⟩
  obtain⟨u,hu,g⟩:=h6 _ q (hp j q hq)
  exact⟨u,by rw[←hu];congr 1;omega,g⟩
theorem O6{x y:Operand}{T:TypeId}{E es eb:Nat}{ki:IntKind}{z:Int}{m:Nat}{cells:List SP}{sv:Value}{T':Nat}(k:Nat)(ht:Iu P T=some (E,es,eb))(hx:Lk Γ δ ρ x (CW sv))(hy:Lk Γ δ ρ y (CW (.int ki z)))(hk:nth τ k=some (.c (Za sv m es cells T')))(h0:0≤z)(h1:z<m):
  OpOK P n ops Γ ρ δ τ ⟨some d,.indexAddr T x y,ty,pos,af,none⟩ (.rd k) (.c (DW sv (z.toNat*es))) ET:=
 Mq hk fun a c ob _ hr hh=>by
  have hv:=(hr x _ (by simp[Op.operands]) hx).1
  have hz:=(hr y _ (by simp[Op.operands]) hy).1
  rcases hh.2 with ⟨_,h2,_⟩|⟨b,cap,cur,h2,h3,h4,h5,h6,h7⟩
  ·omega
  have hrun:=K3 (P:=P) ht c.w (b:=b) (off:=0) (len:=m) (cap:=cap) (k:=ki) (z:=z) h0 h1
  rw[Aq]at hrun
  exact⟨.pointer (some ⟨b,z.toNat*es,none⟩),by simp only[execOp,hv,h2,hz,Sem.run_bind,hrun,Result.andThen_ok,Sem.run_pure],b,.inr ⟨m,cap,h2⟩,rfl⟩
theorem lC{x lo hi:Operand}{T:TypeId}{E es eb:Nat}{k1 k2:IntKind}{l h:Int}{m m':Nat}{cells cells':List SP}(ht:Iu P T=some (E,es,eb))(hx:Lk Γ δ ρ x (Mv m es cells))(hlo:Lk Γ δ ρ lo (CW (.int k1 l)))(hhi:Lk Γ δ ρ hi (CW (.int k2 h)))
  (h0:0≤l) (h1:l≤h) (h2:h≤m) (hm:h-l=m') (hlen:cells'.length=m'*es) (hp: ∀ j p,nth cells' j=some p→nth cells (l.toNat*es+j)=some p):
  OpOK P n ops Γ ρ δ τ ⟨some d,.slice T x (some lo) (some hi) none,ty,pos,af,none⟩ .no (.c (Mv m' es cells')) ET:=
 DE fun a c _ hr=>by
  obtain⟨hl,hv⟩:=hr x _ (by simp[Op.operands]) hx
  have hz1:=(hr lo _ (by simp[Op.operands]) hlo).1
  have hz2:=(hr hi _ (by simp[Op.operands]) hhi).1
  obtain⟨hu,i,hi',hs,_⟩:=Ll ht
  have hm':h.toNat-l.toNat=m':=by omega
  rcases hv with ⟨h3,h4⟩|⟨ad,cap,h3,h4,h5,h6⟩
  ·subst h4
   have hl0:l=0:=by omega
   have hh0:h=0:=by omega
   subst hl0;subst hh0
   have hm0:m'=0:=by omega
   subst hm0
   refine⟨.slice none 0 0,?_,hlen,.inl ⟨rfl,rfl⟩⟩
   simp[execOp,Instr.sliceAt,Instr.slice,run_underlying hu,h3,hz1,hz2,Instr.sliceBounds,Instr.sliceBound,asIntOf,sizeOf,typeInfo,hi']
  have c1:h≤(cap:Int):=by omega
  have c2:0≤h:=by omega
  have c3:l≤(h.toNat:Int):=by omega
  by_cases hc:cap=l.toNat
  ·have hm0:m'=0:=by omega
   have c4:l≤max h 0:=by omega
   have c6:h≤max l 0:=by omega
   have c7:h.toNat-l.toNat=0:=by omega
   refine⟨.slice (some ad) 0 (cap-l.toNat),?_,by subst hm0;exact hlen,.inr ⟨ad,cap-l.toNat,by rw[hm0],by omega,Ak (Nat.sub_le _ _) h5,.inl hm0⟩⟩
   simp[execOp,Instr.sliceAt,Instr.slice,run_underlying hu,h3,hz1,hz2,Instr.sliceBounds,Instr.sliceBound,asIntOf,sizeOf,typeInfo,hi',c1,c2,c3,h0,hc,c4,c6,c7]
  refine⟨.slice (some (ad.add (l.toNat*es))) m' (cap-l.toNat),?_,hlen,.inr ⟨ad.add (l.toNat*es),cap-l.toNat,rfl,by omega,Ak (Nat.sub_le _ _) h5,?_⟩⟩
  ·have c4:l≤max h 0:=by omega
   have c5: ¬max h 0<l:=by omega
   simp[execOp,Instr.sliceAt,Instr.slice,run_underlying hu,h3,hz1,hz2,Instr.sliceBounds,Instr.sliceBound,asIntOf,sizeOf,typeInfo,hi',hs,c1,c2,c4,c5,h0,hc,hm']
  rcases h6 with h6|⟨b,off,ha,h6,cur,U,fz,h7,h8⟩
  ·exact .inl (by omega)
  subst ha
  refine .inr ⟨b,off+l.toNat*es,Gb _ _ _,h6,cur,U,fz,h7,fun j p hj=>?_⟩
  obtain⟨u,hu',g⟩:=h8 _ p (hp j p hj)
  exact⟨u,by rw[←hu'];congr 1;omega,g⟩
def MD(d:Nat):VE:= .d [d] (fun f=>CW (f d)) (fun f g h=>by rw[h d (AE.2 rfl)])
def Li(d m k:Nat)(cells:List SP)(T:TypeId):VR:= .d [d] (fun f=>Za (f d) m k cells T) (fun f g h=>by rw[h d (AE.2 rfl)])
theorem ll{op:Op}(k:Nat){T m kk:Nat}{cells:List SP}(hk:nth τ k=some (.c emp))(hlen:cells.length=m*kk)
  (h: ∀ (a:Act) (c:EW),FH Γ c→(∀ x q,x∈op.operands→Lk Γ δ ρ x q→q.H (a.eval x) c)→ ∃ cap cur,(execOp a.eval ⟨some d,op,ty,pos,af,none⟩).run P c.w= .ok (.value (.slice (some ⟨c.w.heap.size,0,none⟩) m cap)) (c.w.alloc (.cells cur T))∧m≤cap∧cap≤maxLen∧cur.size=cap*kk∧CL cells cur 0 c):
  OpOK P n ops Γ ρ δ τ ⟨some d,op,ty,pos,af,none⟩ (.wr k) (MD d) (Li d m kk cells T):=by
 intro a c ob hs hwf hf hr hres hno hown
 obtain⟨r0,hr0,hh⟩:=hres k rfl
 rw[hk]at hr0
 cases hr0
 have hob:ob=Ix:=hh
 subst hob
 obtain⟨cap,cur,hex,h1,h2,h3,h4⟩:=h a c hf (fun x q hx hq=>Lk.val (o:=⟨some d,op,ty,pos,af,none⟩) hr hf hx hq)
 simp only[Region.wanted,if_true]
 unfold GP
 rw[hex]
 have htr:Tr c Ix true ⟨c.w.alloc (.cells cur T),fun k=>c.M k∨k=c.w.heap.size⟩ (only c.w.heap.size):=by
  refine⟨rfl,rfl,rfl,by simp,fun j hj _=>heap_alloc_old c.w _ j hj,fun j hj=>⟨fun h=>h.resolve_right (by omega),fun h=> .inl (.inl h)⟩,.inr ⟨rfl,fun b hb=> .inr (by rw[show b=_ from hb];exact⟨A5 _,.inr rfl⟩)⟩,fun j hj=>?_⟩
  have e:(c.w.alloc (.cells cur T)).heap.size=c.w.heap.size+1:=by simp
  show j<(c.w.alloc (.cells cur T)).heap.size
  rw[e]
  rcases hj with h|h
  ·have:=hwf j h;omega
  omega
 refine⟨_,_,rfl,htr,?_,fun _=>?_⟩
 ·simp only[MD,VE.at,FK]
  exact⟨rfl,rfl⟩
 simp only[Li,VR.at,FK]
 exact⟨hlen,.inr ⟨c.w.heap.size,cap,cur,rfl,rfl,h1,h2,heap_alloc_new c.w _,h3,h4.st (htr.le (fun _ h=>by cases h))⟩⟩
theorem bK{x y:Operand}{T E es eb:Nat}(k:Nat){k1 k2:IntKind}{l h:Int}{m:Nat}{zs:List Value}{cells:List SP}(ht:Iu P T=some (E,es,eb))(hz:HC P E=some zs)(hz1:zs.all (·.oneCell')=true)(hzl:Nat.beq zs.length es=true)(hx:Lk Γ δ ρ x (CW (.int k1 l)))(hy:Lk Γ δ ρ y (CW (.int k2 h)))
  (h0:0≤l) (h1:l≤h) (hb:eb*h≤281474976710656) (h63:h≤9223372036854775807) (hm:l.toNat=m) (hc:cells.length=m*es) (hcs: ∀ i p,nth cells i=some p→ ∃ z,nth zs (i % es)=some z∧CW z=p) (hk:nth τ k=some (.c emp)):
  OpOK P n ops Γ ρ δ τ ⟨some d,.makeSlice T x y,ty,pos,af,none⟩ (.wr k) (MD d) (Li d m es cells E):=
 ll k hk hc fun a c _ hr=>by
  have v1:=(hr x _ (by simp[Op.operands]) hx).1
  have v2:=(hr y _ (by simp[Op.operands]) hy).1
  obtain⟨hu,i,hi,hs,hbb⟩:=Ll ht
  unfold HC at hz
  rw[hi]at hz
  simp only[BT]at hz
  cases hzz:i.zero with
  |none=>rw[hzz]at hz;cases hz
  |some z=>
   rw[hzz]at hz
   simp only[AL,Ah]at hz
   have hrun:=run_make (P:=P) c.w T E i z hu hi hzz k1 k2 l h h0 h1 (by rw[hbb];exact hb) h63
   rw[hm,hs]at hrun
   refine⟨h.toNat,madeCells z.cells (h.toNat*es),by simp only[execOp,v1,v2,Sem.run_bind,hrun,Result.andThen_ok,Sem.run_pure],by omega,by simp only[maxLen];omega,size_madeCells _ _,fun j p hj=>?_⟩
   obtain⟨zv,hzv,hp⟩:=hcs j p hj
   have hjl:=Ho hj
   have hle:m*es≤h.toNat*es:=Au _ (by omega)
   have hzs:z.cells.size=es:=by
    have:zs.length=es:=Bj hzl
    rw[←hz]at this
    simpa using this
   have hone:zv.oneCell'=true:=(B1.1 hz1) zv (by rw[Dq]at hzv;exact Bh hzv)
   refine⟨zv,?_,hone,hp▸⟨rfl,hone⟩⟩
   have hjc:j<h.toNat*es:=by omega
   rw[Aq]
   simp only[madeCells,Array.getElem?_map,hzs]
   rw[Ce (by simpa using hjc)]
   simp only[Array.getElem_range,AL,Ah]
   rw[←hz,Dq,Cf]at hzv
   rw[getElem!_def,hzv]
theorem cg {T E es eb ty : Nat} {i : TypeInfo} {z : Value} (w : World) (hu : P.underlying T = some (.slice E)) (hi : P.info? E = some i) (hzz : i.zero = some z) (hsz : i.size = es) (hbb : i.bytes = eb) (hzs : z.cells.size = es) (hes : 0 < es)
    {sv : Value} {m : Nat} (cur : Array Value) (b cap : Nat) (hsv : (sv = .slice none 0 0 ∧ m = 0 ∧ cur = #[]) ∨ (sv = .slice (some ⟨b, 0, none⟩) m cap ∧ m ≤ cap ∧ cap ≤ maxLen ∧ w.heap[b]? = some (.cells cur E (0, 0)) ∧ cur.size = cap * es))
    {yv : Value} {m' : Nat} (nsv : List Value) (ad : Addr) (cc : Nat) (hy : (yv = .slice (some ad) m' cc) ∨ (yv = .slice none 0 0 ∧ m' = 0)) (hnl : nsv.length = m' * es) (hnc : ∀ j u, nsv[j]? = some u → w.cell? (ad.add j) = some u) (hn1 : ∀ u ∈ nsv, u.oneCell' = true)
    (h63 : m + m' ≤ 9223372036854775807) (hb : (m + m') * eb ≤ 140737488355328) :
    ∃ v' w', (Builtin.append_ #[T, T] ty #[sv, yv]).run P w = .ok v' w' ∧
      ((m' = 0 ∧ v' = sv ∧ w' = w) ∨
       (sv = .slice (some ⟨b, 0, none⟩) m cap ∧ m + m' ≤ cap ∧ v' = .slice (some ⟨b, 0, none⟩) (m + m') cap ∧ w' = w.setRow b (cur.toList.take (m * es) ++ nsv ++ cur.toList.drop (m * es + nsv.length)).toArray) ∨
       ∃ cap' rest, v' = .slice (some ⟨w.heap.size, 0, none⟩) (m + m') cap' ∧ m + m' ≤ cap' ∧ cap' ≤ maxLen ∧ w' = w.drew.alloc (.cells ((cur.toList.take (m * es)).toArray ++ nsv.toArray ++ rest) E) ∧ rest.size = (cap' - (m + m')) * es) := by
  subst hsz
  subst hbb
  have hmax : ∀ need old, need ≤ 9223372036854775807 → grownCap w need old E ≤ maxLen := fun need old h => grownCap_le_maxLen w need old E (by simp only [maxLen]; omega)
  by_cases hm0 : m' = 0
  · subst hm0
    have hn0 : nsv = [] := CO (by simpa using hnl)
    subst hn0
    refine ⟨sv, w, ?_, .inl ⟨rfl, rfl, rfl⟩⟩
    rcases hsv with ⟨h1, h2, _⟩ | ⟨h1, h2, h3, h4, h5⟩
    · subst h1; subst h2
      rcases hy with hy | ⟨hy, _⟩ <;> rw [hy] <;> simp [Builtin.append_, run_underlying hu, sizeOf, typeInfo, hi, Builtin.lenOf, Builtin.firstCells, loadCells, loadCellsFrom]
    · subst h1
      rcases hy with hy | ⟨hy, _⟩ <;> rw [hy] <;> simp [Builtin.append_, run_underlying hu, sizeOf, typeInfo, hi, Builtin.lenOf, h2, Builtin.firstCells, loadCells, loadCellsFrom, storeCells]
  · have hy' : yv = .slice (some ad) m' cc := hy.resolve_right (fun h => hm0 h.2)
    subst hy'
    rcases hsv with ⟨h1, h2, h3⟩ | ⟨h1, h2, h3, h4, h5⟩
    · subst h1; subst h2; subst h3
      simp only [Aq] at h63 hb
      have hr := run_append_nil (P := P) w T ty E i z hu hi hzz ad m' cc nsv hnl hnc (by omega) (by omega) (by omega)
      refine ⟨_, _, hr, .inr (.inr ⟨grownCap w m' 0 E, Builtin.zeroCells z.cells (grownCap w m' 0 E - m'), by simp, by simpa using grownCap_ge w m' 0 E, hmax m' 0 h63, by simp, by simp [Builtin.zeroCells, hzs]⟩)⟩
    · subst h1
      by_cases hroom : m + m' ≤ cap
      · have hfit : m * i.size + nsv.length ≤ cur.size := by rw [hnl, h5, ← AO]; exact Au _ hroom
        have hr := run_append_room (P := P) w T ty E i hu hi b m cap cur h4 ad m' cc nsv hnl hnc hn1 hroom hfit
        exact ⟨_, _, hr, .inr (.inl ⟨rfl, hroom, rfl, rfl⟩)⟩
      · have hxl : (cur.toList.take (m * i.size)).length = m * i.size := by
          have := Au i.size h2
          rw [A9, Array.length_toList, h5]; exact At this
        have holds : ∀ j v, (cur.toList.take (m * i.size))[j]? = some v → w.cell? ((⟨b, 0, none⟩ : Addr).add j) = some v := fun j v hv => by
          rw [Gb, Aq, cell_of_row w b j cur E (0, 0) h4]
          rw [B9] at hv
          split at hv
          · simpa using hv
          · cases hv
        have hr := run_append_grow (P := P) w T ty E i z hu hi hzz ⟨b, 0, none⟩ m cap (cur.toList.take (m * i.size)) hxl holds ad m' cc nsv hnl hnc (by omega) (by omega) (growslice_fits (by omega) hb)
        exact ⟨_, _, hr, .inr (.inr ⟨grownCap w (m + m') cap E, Builtin.zeroCells z.cells (grownCap w (m + m') cap E - (m + m')), rfl, grownCap_ge w (m + m') cap E, hmax _ _ h63, rfl, by simp [Builtin.zeroCells, hzs]⟩)⟩
theorem Ts{m es:Nat}{cells:List SP}{v:Value}{c:EW}(h:(Mv m es cells).H v c): ∃ (nsv:List Value) (ad:Addr) (cc:Nat),(v= .slice (some ad) m cc∨(v= .slice none 0 0∧m=0))∧nsv.length=m*es∧(∀ j u,nsv[j]? =some u→c.w.cell? (ad.add j)=some u)∧(∀ u∈nsv,u.oneCell'=true)∧CL cells nsv.toArray 0 c:=by
 obtain⟨hlen',hcase'⟩:=h
 rcases hcase' with ⟨h1,h2⟩|⟨ad,cap,h1,h2,h3,h4⟩
 ·subst h2
  refine⟨[],⟨0,0,none⟩,0,.inr ⟨h1,rfl⟩,by simp,fun j u h=>by simp at h,fun u h=>by simp at h,fun j p hj=>?_⟩
  have:=Ho hj
  omega
 rcases h4 with h4|⟨b,off,ha,h4,cur,U,fz,h5,h6⟩
 ·subst h4
  refine⟨[],ad,cap,.inl h1,by simp,fun j u h=>by simp at h,fun u h=>by simp at h,fun j p hj=>?_⟩
  have:=Ho hj
  omega
 subst ha
 refine⟨(cur.toList.drop off).take (m*es),⟨b,off,none⟩,cap,.inl h1,?_,fun j u h=>?_,fun u hu'=>?_,fun j p hj=>?_⟩
 ·by_cases h0:cells=[]
  ·rw[h0]at hlen';simp at hlen';simp[←hlen']
  have:=h6.le h0
  simp
  omega
 ·rw[Gb]
  rw[B9]at h
  split at h
  ·rw[AF]at h
   simp[World.cell?,h5]
   simpa using h
  cases h
 ·obtain⟨j,hj,hju⟩:=List.mem_iff_getElem.1 hu'
  have hjm:j<cells.length:=by simp at hj;omega
  obtain⟨u',h7,h8,_⟩:=h6 j cells[j] (by rw[Dq];exact Ag hjm)
  have:cur[off+j]? =some u:=by
   simp only[List.getElem_take,List.getElem_drop]at hju
   rw[←Cf,Ag (by simp at hj⊢;omega),hju]
  rw[this]at h7
  cases h7
  exact h8
 obtain⟨u,h7,g⟩:=h6 j p hj
 refine⟨u,?_,g⟩
 have:=Ho hj
 rw[Aq,Cy,B9,if_pos (by omega),AF]
 simpa using h7
theorem OG{cells news:List SP}{xs ys:List Value}{rest:List Value}{c:EW}(hx:CL cells xs.toArray 0 c)(hy:CL news ys.toArray 0 c)(hl:xs.length=cells.length)(hl':ys.length=news.length):CL (cells++news) (xs++ys++rest).toArray 0 c:=fun j p hj=>by
 rw[Dq]at hj
 rw[Aq,Cy]
 have hjl:j<cells.length+news.length:=by
  have:=(AU.1 hj).1
  simpa using this
 rw[AW (by simp;omega)]
 by_cases h:j<cells.length
 ·rw[AW h]at hj
  rw[AW (by omega)]
  have:=hx j p (by rw[Dq];exact hj)
  simpa using this
 rw[Bp (by omega)]at hj
 rw[Bp (by omega),hl]
 have:=hy (j-cells.length) p (by rw[Dq];exact hj)
 simpa using this
theorem P3{x y:Operand}{T E es eb:Nat}(k:Nat){sv:Value}{m m':Nat}{cells news all:List SP}{zs:List Value}{ms:Nat}(ht:Iu P T=some (E,es,eb))(hz:HC P E=some zs)(hzl:Nat.beq zs.length es=true)(hes:Nat.blt 0 es=true)(hx:Lk Γ δ ρ x (CW sv))(hy:Lk Γ δ ρ y (Mv m' es news))
  (hk:nth τ k=some (.c (Za sv m es cells E))) (hsum:m+m'=ms) (h63:ms≤9223372036854775807) (hb:ms*eb≤140737488355328) (hall:cells++news=all):
  OpOK P n ops Γ ρ δ τ ⟨some d,.call ⟨.builtin .append,#[x,y],#[T,T]⟩,ty,pos,af,none⟩ (.wr k) (MD d) (Li d ms es all E):=by
 intro a c ob hs hwf hf hr hres hno hown
 subst hsum
 subst hall
 obtain⟨r0,hr0,hh⟩:=hres k rfl
 rw[hk]at hr0
 cases hr0
 have hrd:=Lk.val (o:=⟨some d,.call ⟨.builtin .append,#[x,y],#[T,T]⟩,ty,pos,af,none⟩) hr hf (x:=x) (by simp[Op.operands,Call.operands]) hx
 have hyv:=Lk.val (o:=⟨some d,.call ⟨.builtin .append,#[x,y],#[T,T]⟩,ty,pos,af,none⟩) hr hf (x:=y) (by simp[Op.operands,Call.operands]) hy
 obtain⟨hu,i,hi,hsz,hbb⟩:=Ll ht
 have hes':=HE hes
 unfold HC at hz
 rw[hi]at hz
 simp only[BT]at hz
 cases hzz:i.zero with
 |none=>rw[hzz]at hz;cases hz
 |some z=>
  rw[hzz]at hz
  simp only[AL,Ah]at hz
  have hzs:z.cells.size=es:=by
   have:zs.length=es:=Bj hzl
   rw[←hz]at this
   simpa using this
  obtain⟨hlen,hcase⟩:=hh
  have hlen':=hyv.1
  obtain⟨nsv,ad,cc,hyx,hnl,hncell,hnone,hnCL⟩:=Ts hyv
  obtain⟨cur,b,cap,hsv,hcl,hobb⟩: ∃ (cur:Array Value) (b cap:Nat),((sv= .slice none 0 0∧m=0∧cur= #[])∨(sv= .slice (some ⟨b,0,none⟩) m cap∧m≤cap∧cap≤maxLen∧c.w.heap[b]? =some (.cells cur E (0,0))∧cur.size=cap*es))∧CL cells (cur.toList.take (m*es)).toArray 0 c∧((sv= .slice none 0 0∧ob=Ix)∨(sv= .slice (some ⟨b,0,none⟩) m cap∧ob=only b)):=by
   rcases hcase with ⟨h1,h2,h3⟩|⟨b,cap,cur,h1,h2,h3,h4,h5,h6,h7⟩
   ·refine⟨#[],0,0,.inl ⟨h1,h2,rfl⟩,fun j p hj=>?_,.inl ⟨h1,h3⟩⟩
    have:=Ho hj
    subst h2
    omega
   refine⟨cur,b,cap,.inr ⟨h1,h3,h4,h5,h6⟩,fun j p hj=>?_,.inr ⟨h1,h2⟩⟩
   obtain⟨u,hu',g⟩:=h7 j p hj
   refine⟨u,?_,g⟩
   have:=Ho hj
   rw[Aq]at hu'⊢
   rw[Cy,B9,if_pos (by omega)]
   simpa using hu'
  have htl:(cur.toList.take (m*es)).length=cells.length:=by
   rcases hsv with ⟨_,h2,h3⟩|⟨_,h2,_,_,h5⟩
   ·subst h2;subst h3;simp[hlen]
   have:=Au es h2
   rw[A9,Array.length_toList,h5,hlen];exact At this
  obtain⟨v',w',g1,g2⟩:=cg (P:=P) (ty:=ty) c.w hu hi hzz hsz hbb hzs hes' cur b cap hsv nsv ad cc hyx hnl hncell hnone h63 hb
  simp only[Region.wanted,if_true]
  unfold GP
  have hex:(execOp a.eval ⟨some d,.call ⟨.builtin .append,#[x,y],#[T,T]⟩,ty,pos,af,none⟩).run P c.w= .ok (.value v') w':=by
   simp only[execOp,resolve,invoke,builtin,Sem.run_bind,Sem.run_pure,Result.andThen_ok,List.map_toArray,Br,List.map_nil,hrd.1,g1]
  rw[hex]
  have hll:(cells++news).length=(m+m')*es:=by rw[As,hlen,hlen',AO]
  rcases g2 with ⟨h1,h2,h3⟩|⟨h1,h2,h3,h4⟩|⟨cap',rest,h1,h2,h3,h4,h5⟩
  ·subst h1;subst h2;subst h3
   have hn0:news=[]:=CO (by simpa using hlen')
   subst hn0
   refine⟨c,ob,rfl,⟨rfl,rfl,rfl,A5 _,fun _ _ _=>rfl,fun _ _=>⟨id,.inl⟩,.inl rfl,hwf⟩,?_,fun _=>?_⟩
   ·simp only[MD,VE.at,FK]
    exact⟨rfl,hrd.2⟩
   simp only[Li,VR.at,FK]
   refine⟨hll,?_⟩
   simpa using hcase
  ·subst h4
   have hob:ob=only b:=by
    rcases hobb with ⟨q,_⟩|⟨_,q⟩
    ·rw[q]at h1;cases h1
    exact q
   have hrow:cap≤maxLen∧c.w.heap[b]? =some (.cells cur E (0,0))∧cur.size=cap*es:=by
    rcases hsv with ⟨q,_⟩|⟨_,_,q3,q4,q5⟩
    ·rw[q]at h1;cases h1
    exact⟨q3,q4,q5⟩
   let c':EW:=⟨c.w.setRow b (cur.toList.take (m*es)++nsv++cur.toList.drop (m*es+nsv.length)).toArray,c.M⟩
   have htr:Tr c ob true c' ob:=by
    refine⟨rfl,rfl,rfl,by simp[c',World.setRow],fun j hj hne=>?_,fun _ _=>⟨id,.inl⟩,.inl rfl,fun j hj=>by simp[c',World.setRow];exact hwf j hj⟩
    exact setRow_other c.w b j _ (fun e=>hne rfl (by rw[hob,e];rfl))
   have hle:Le c c':=htr.le fun b hb=>(hown b hb).1
   refine⟨c',ob,rfl,htr,?_,fun _=>?_⟩
   ·simp only[MD,VE.at,FK]
    exact⟨rfl,by rw[h3];rfl⟩
   simp only[Li,VR.at,FK]
   refine⟨hll,.inr ⟨b,cap,_,h3,hob,h2,hrow.1,setRow_heap c.w b cur _ E (0,0) hrow.2.1,?_,?_⟩⟩
   ·have:=Au es h2
    rw[AO]at this
    have e:cur.toList.length=cap*es:=by simpa using hrow.2.2
    rw[List.size_toArray,As,As,htl,AD,e,hnl,hlen]
    omega
   exact(OG hcl hnCL htl (by rw[hnl,hlen'])).st hle
  subst h4
  let c':EW:=⟨c.w.drew.alloc (.cells ((cur.toList.take (m*es)).toArray++nsv.toArray++rest) E),fun k=>c.M k∨k=c.w.heap.size⟩
  have hsize:(c.w.drew.alloc (.cells ((cur.toList.take (m*es)).toArray++nsv.toArray++rest) E)).heap.size=c.w.heap.size+1:=by simp
  have htr:Tr c ob true c' (only c.w.heap.size):=by
   refine⟨rfl,rfl,rfl,by simp[c'],fun j hj _=>heap_alloc_old c.w.drew _ j hj,fun j hj=>⟨fun h=>h.resolve_right (by omega),fun h=> .inl (.inl h)⟩,.inr ⟨rfl,fun b hb=> .inr (by rw[show b=_ from hb];exact⟨A5 _,.inr rfl⟩)⟩,fun j hj=>?_⟩
   show j<(c.w.drew.alloc _).heap.size
   rw[hsize]
   rcases hj with h|h
   ·have:=hwf j h;omega
   omega
  have hle:Le c c':=htr.le fun b hb=>(hown b hb).1
  refine⟨c',(only c.w.heap.size),rfl,htr,?_,fun _=>?_⟩
  ·simp only[MD,VE.at,FK]
   exact⟨rfl,by rw[h1];rfl⟩
  simp only[Li,VR.at,FK]
  refine⟨hll,.inr ⟨c.w.heap.size,cap',_,h1,rfl,h2,h3,heap_alloc_new c.w.drew _,?_,?_⟩⟩
  ·have:=Au es h2
   rw[Nat.sub_mul]at h5
   rw[AO]at this h5
   simp only[Array.size_append,List.size_toArray,htl,hlen,hnl,h5]
   omega
  have e:(cur.toList.take (m*es)).toArray++nsv.toArray++rest=(cur.toList.take (m*es)++nsv++rest.toList).toArray:=by
   apply Array.ext';simp
  rw[e]
  exact(OG hcl hnCL htl (by rw[hnl,hlen'])).st hle
end ops
theorem Z:(∀ a b:Bool,((a&&b)=true)=(a=true∧b=true))∧(∀ a b:Bool,((a||b)=true)=(a=true∨b=true))∧(∀ {x y:Bool},(x&&y)=false↔x=false∨y=false)∧(∀ {x y:Bool},(x||y)=false↔x=false∧y=false)∧(∀ {b:Bool},((!b)=true)=(b=false))∧(∀ {b:Bool},((!b)=false)=(b=true))∧(∀ {b:Bool},(¬b=true)=(b=false))∧(∀ {b:Bool},(¬b=false)=(b=true))∧(∀ {p:Prop} [Decidable p],(decide p=true)=p)∧(∀ {p:Prop} [Decidable p],decide p=false↔ ¬p)∧(∀ {a b:Int},¬a<b↔b≤a)∧(∀ {a b:Int},¬a≤b↔b<a)∧(∀ {α:Type} [BEq α] [LawfulBEq α] {a b:α},(a==b)=true↔a=b)∧(∀ {α:Type} [BEq α] [LawfulBEq α] {a b:α},(a !=b)=true↔a≠b)∧(∀ {α:Type} [BEq α] [LawfulBEq α] {x y:α},(x==y)=false↔x≠y)∧(∀ {α:Type} [BEq α] [LawfulBEq α] {a b:α},(a !=b)=false↔a=b)∧(∀ {α:Type} (a b:α),(a≠b)= ¬a=b)∧(∀ {p:Prop} [Decidable p],¬¬p↔p):=⟨Ao,Bm,Bool.and_eq_false_iff,AQ,@Bool.not_eq_true',@Bool.not_eq_false',@Bool.not_eq_true,@Bool.not_eq_false,@decide_eq_true_eq,@decide_eq_false_iff_not,@Int.not_lt,@Int.not_le,@beq_iff_eq,@bne_iff_ne,@beq_eq_false_iff_ne,@bne_eq_false_iff_eq,@ne_eq,@Decidable.not_not⟩
end Go.Bn
