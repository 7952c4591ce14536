/- Walk 8. -/

import Derived.Test.YtidfkjpcpgeilaaF7
open Go Go.Abs Go.Proofs
set_option maxRecDepth 100000
set_option maxHeartbeats 4000000
set_option linter.unusedSimpArgs false
set_option linter.unusedVariables false
open Ldr
def dropP (k:Int):List Pr→List Pr
 | []=> []
 | e :: L=>if k=e.s then L else e :: dropP k L
theorem dropA_p (k:Int): ∀L:List Pr,dropA (.int .i64 k) (L.map entP)=some ((dropP k L).map entP)
 | []=>rfl
 | e :: L=>by
  have ih:=dropA_p k L
  simp only[List.map_cons,dropA,entP,keyEq_i,dropP]
  by_cases q:k=e.s
  ·rw[decide_eq_true q,if_pos q]
  ·rw[decide_eq_false q,if_neg q]
   simp only
   rw[ih]
   rfl
theorem dropP_filter {k:Int}: ∀{L:List Pr},L.Pairwise (fun a b=>a.s<b.s)→dropP k L=L.filter fun e=>decide (e.s≠k)
 | [],_=>rfl
 | e :: L,h=>by
  have h':=List.pairwise_cons.1 h
  unfold dropP
  by_cases q:k=e.s
  ·rw[if_pos q,List.filter_cons,if_neg (by simp[q])]
   symm
   rw[List.filter_eq_self]
   intro x hx
   have:=h'.1 x hx
   simp; omega
  ·rw[if_neg q,List.filter_cons,if_pos (by simp; omega),dropP_filter h'.2]
theorem findA_p (k:Int): ∀L:List Pr,findA (.int .i64 k) (L.map entP)=some ((L.find? fun e=>decide (e.s=k)).map fun e=> .ptr (.hp e.i) 0)
 | []=>rfl
 | e :: L=>by
  have ih:=findA_p k L
  simp only[List.map_cons,findA,entP,keyEq_i]
  by_cases q:k=e.s
  ·simp[q]
  ·have q2: ¬e.s=k:=fun h=>q h.symm
   simp only[q,decide_false,q2,List.find?_cons_of_neg,Bool.false_eq_true,not_false_eq_true]
   exact ih
theorem lookup_p (σ:AS) (mo:Nat) (L:List Pr) (k:Int) (hm:σ.get (.hp mo)=some (.map (L.map entP))):lookupA Try.prog σ 76 (.map (.hp mo)) (.int .i64 k) false=some (match L.find? fun e=>decide (e.s=k) with
  | some e=> .ptr (.hp e.i) 0
  | none=> .nilp):=by
 unfold lookupA
 simp only[Try.underlying76,Try.underlying3,z98,keyFits,if_true,hm,findA_p]
 cases L.find? fun e=>decide (e.s=k)<;> rfl
theorem mget_find (k:Int): ∀L:List Pr,mget k (L.map tripP)=(L.find? fun e=>decide (e.s=k)).map fun e=>(e.v,e.m)
 | []=>rfl
 | e :: L=>by
  have ih:=mget_find k L
  unfold mget at*
  by_cases q:e.s=k
  ·simp[q,tripP]
  ·simp only[List.map_cons,tripP,q,decide_false,List.find?_cons_of_neg,Bool.false_eq_true,not_false_eq_true]
   exact ih
theorem gd27:Try.prog.eqGuardType Try.prog.depth 27=false:=by kernel_rfl
theorem st27:Try.prog.stoodInHeld 27=false:=by kernel_rfl
theorem eqB27 (d:Nat) (a b x y:Int):eqA Try.prog (d+2) 27 (.agg [.int .u64 a, .int .i64 b]) (.agg [.int .u64 x, .int .i64 y])=some (decide (a=x) && decide (b=y)):=by
 by_cases p1:a=x <;> by_cases p2:b=y <;> simp[eqA,st27,eqFieldsA,partA,aggA,isAggD,p1,p2,beqI]
theorem gd37:Try.prog.eqGuardType Try.prog.depth 37=false:=by kernel_rfl
theorem st37:Try.prog.stoodInHeld 37=false:=by kernel_rfl
theorem eqB37 (d:Nat) (a b x y:Int):eqA Try.prog (d+2) 37 (.agg [.int .u64 a, .int .i64 b]) (.agg [.int .u64 x, .int .i64 y])=some (decide (a=x) && decide (b=y)):=by
 by_cases p1:a=x <;> by_cases p2:b=y <;> simp[eqA,st37,eqFieldsA,partA,aggA,isAggD,p1,p2,beqI]
def putP (k m2:Int):List Pr→List Pr
 | []=> []
 | e :: L=>if e.s=k then {e with m:=m2}:: L else e :: putP k m2 L
theorem putP_ent (k m2:Int): ∀L:List Pr,(putP k m2 L).map entP=L.map entP
 | []=>rfl
 | e :: L=>by
  unfold putP
  split
  ·rfl
  ·simp only[List.map_cons]; rw[putP_ent k m2 L]
theorem putP_i (k m2:Int): ∀L:List Pr,(putP k m2 L).map (·.i)=L.map (·.i)
 | []=>rfl
 | e :: L=>by
  unfold putP
  split
  ·rfl
  ·simp only[List.map_cons]; rw[putP_i k m2 L]
theorem putP_trip {k m2:Int}: ∀{L:List Pr} {e:Pr},L.find? (fun e=>decide (e.s=k))=some e→(putP k m2 L).map tripP=mput k (e.v,m2) (L.map tripP)
 | [],_,h=>by cases h
 | x :: L,e,h=>by
  unfold putP
  by_cases q:x.s=k
  ·rw[List.find?_cons_of_pos (by simpa using q)] at h
   cases h
   simp[q,tripP,mput]
  ·rw[List.find?_cons_of_neg (by simpa using q)] at h
   rw[if_neg q]
   simp only[List.map_cons]
   rw[putP_trip h]
   simp[mput,tripP,q]
theorem putP_mem {k m2:Int}: ∀{L:List Pr} {e:Pr},(L.map (·.i)).Nodup→L.find? (fun e=>decide (e.s=k))=some e→ ∀x∈putP k m2 L,x={e with m:=m2}∨(x∈L∧x.i≠e.i)
 | [],_,_,h,_,_=>by cases h
 | y :: L,e,hn,h,x,hx=>by
  simp only[List.map_cons,List.nodup_cons] at hn
  unfold putP at hx
  by_cases q:y.s=k
  ·rw[List.find?_cons_of_pos (by simpa using q)] at h
   cases h
   rw[if_pos q] at hx
   rcases List.mem_cons.1 hx with h | h
   ·exact .inl h
   ·exact .inr ⟨List.mem_cons_of_mem _ h,fun e=>hn.1 (by rw[←e]; exact List.mem_map_of_mem h)⟩
  ·rw[List.find?_cons_of_neg (by simpa using q)] at h
   rw[if_neg q] at hx
   have he:=List.mem_of_find?_eq_some h
   rcases List.mem_cons.1 hx with rfl | hx
   ·exact .inr ⟨List.mem_cons_self ..,fun e=>hn.1 (by rw[e]; exact List.mem_map_of_mem he)⟩
   ·rcases putP_mem hn.2 h x hx with h | h
    ·exact .inl h
    ·exact .inr ⟨List.mem_cons_of_mem _ h.1,h.2⟩
theorem dropP_sub (k:Int): ∀L:List Pr,(dropP k L).Sublist L
 | []=> .slnil
 | e :: L=>by
  unfold dropP
  split
  ·exact List.sublist_cons_self _ _
  ·exact (dropP_sub k L).cons_cons _
theorem inj_i: ∀{L:List Pr} {x y:Pr},(L.map (·.i)).Nodup→x∈L→y∈L→x.i=y.i→x=y
 | [],_,_,_,h,_,_=>by cases h
 | z :: L,x,y,hn,hx,hy,e=>by
  simp only[List.map_cons,List.nodup_cons] at hn
  rcases List.mem_cons.1 hx with hx1 | hx1
  ·rcases List.mem_cons.1 hy with hy1 | hy1
   ·rw[hx1,hy1]
   ·exact absurd (by rw[←hx1,e]; exact List.mem_map_of_mem hy1) hn.1
  ·rcases List.mem_cons.1 hy with hy1 | hy1
   ·exact absurd (by rw[←hy1,←e]; exact List.mem_map_of_mem hx1) hn.1
   ·exact inj_i hn.2 hx1 hy1 e
def ansA:Option ByteArray→AV
 | some v=> .tup [.str v, .bool true]
 | none=> .tup [.str ⟨#[]⟩, .bool false]
namespace LAcc
noncomputable def cr (p:List Dir):Code:=sub p (bodyOf Try.f23)
section
attribute [local simp] ofV ofCell ofCells seqA_nil seqA_cons seqVK_eq seqEK_eq wantedA yieldedA isVal effA ev evs evps putE optsA optsOk valA fieldAddrA fieldA loadA partA aggA isAggD buildA placesA fillA lay storeA AV.withCells buildSliceA elemsA rowParts fzL promL okE isSrc bytesOk pushA cxOf lenA binA intBinA strBinA unA indexAddrA eqA AVs.inb AV.inb Loc.inb calleeA opsOf sub bodyOf Env.get_set quietA_nil quietA_cons quietK_none quietK_some qstep newA isNew escNew boxOk newLoc flat rowPartsQ quietN quietOp isBS List.takeWhile finishA_eq finK_ret finK_normal retK backK resA oneA AV.back AVs.back execW_seq_eq seqK_normal seqK_ret seqK_exit execW_cond_eq condK_true condK_false execW_block_eq blockK_exit blockK_normal blockK_ret execW_region_eq regK_eq execW_skip execW_exit execW_ret regionA_plain regionA_quiet0 tailK_eq nilCheckA guardOk isConst lookupA keyFits mapUpdateA beqI bneI
theorem rA (cx:Cx) (env:Env) (σ:AS) (hp s:List AObj) (rd rn:Int) (hlen:env.length=64) (hcx:cx.esc= []) (f2:Env.get env 2= .agg [.int .u64 rd, .int .i64 rn]) (hσ:σ=⟨hp,s⟩) (hro0:cx.ro=none):
  Pc Try.prog how cx [] 64 [6,8,9] (cr [.l]) env σ (.normal) (AS.mk hp (s++ [.cells [.int .u64 rd, .int .i64 rn]])) (fun env'=>Env.get env' 6= .ptr (.st s.length) 0∧Env.get env' 8= .str ⟨#[]⟩∧Env.get env' 9= .bool false):=by
 refine pc_of fun res hr=>?_
 simp -implicitDefEqProofs [AS.get_push_at,AS.get_push_old,AS.push_len,AS.set_st_len,AS.next_st',AS.set_push_at,AS.get_set_self,AS.get_set_other,cr,Try.f23,hlen,hcx,f2,hσ,hro0] at hr
 subst hr
 refine ⟨_,rfl,by simp[hlen],by simp[Env.get_set,hlen,f2,hσ,hro0],fun i hi=>?_⟩
 simp only[List.mem_cons,List.not_mem_nil,or_false,not_or] at hi
 simp only[putE,get_set2,hi,false_and,if_false]
theorem r1 (cx:Cx) (env:Env) (σ:AS) (a:Nat) (me n st br bn fr pr nx:Int) (B O:AV) (rd rn k:Int) (b1:Bool) (i:Nat) (hp s:List AObj) (hlen:env.length=64) (hcx:cx.esc= []) (f0:Env.get env 0= .ptr (.hp a) 0) (f1:Env.get env 1= .int .i64 k) (f6:Env.get env 6= .ptr (.st i) 0) (hσ:σ=⟨hp,s⟩) (hA:(AS.mk hp s).get (.hp a)=some (.cells [.int .i64 me, .int .i64 n, .int .i64 st, .int .u64 br, .int .i64 bn, .int .i64 fr, .int .u8 pr,B,O, .int .i64 nx])) (gi:(AS.mk hp s).get (.st i)=some (.cells [.int .u64 rd, .int .i64 rn])) (k1:callW Try.prog how 16 [.ptr (.hp a) 0] ⟨hp,s⟩ (some s.length)=some (.int .i64 st,⟨hp,s⟩)) (k2:callW Try.prog how 25 [.ptr (.hp a) 0, .int .i64 k] ⟨hp,s⟩ (some s.length)=some (.bool b1,⟨hp,s⟩)):
  Pc Try.prog how cx [] 64 [11,12,13,14,15,16,17,18,19,20,21,22,23,24,25,26,27] (cr [.r, .l, .l]) env σ (.normal) (AS.mk hp s) (fun env'=>Env.get env' 27= .bool (!(decide (st=2) && (decide (rd=br) && decide (rn=bn)) && b1))):=by
 by_cases q1:st=2 <;> by_cases q2:rd=br <;> by_cases q3:rn=bn <;> cases b1
 all_goals first | (fail; done) | (
   refine pc_of fun res hr=>?_
   simp -implicitDefEqProofs [-eqA,AS.get_push_at,AS.get_push_old,AS.push_len,AS.set_st_len,AS.next_st',AS.set_push_at,AS.get_set_self,AS.get_set_other,cr,Try.f23,hlen,hcx,f0,f1,f6,hσ,hA,gi,k1,k2,q1,q2,q3,gd27,eqB27] at hr
   subst hr
   refine ⟨_,rfl,by simp[hlen],by simp[Env.get_set,hlen,f0,f1,f6,hσ,hA,gi,k1,k2,q1,q2,q3,gd27,eqB27],fun i hi=>?_⟩
   simp only[List.mem_cons,List.not_mem_nil,or_false,not_or] at hi
   simp only[putE,get_set2,hi,false_and,if_false]
  )
theorem r2 (cx:Cx) (env:Env) (σ:AS) (hlen:env.length=64) (hcx:cx.esc= []):
  Pc Try.prog how cx [] 64 [8,9] (cr [.r, .l, .r, .l, .l]) env σ (.normal) (σ) (fun env'=>Env.get env' 8= .str ⟨#[]⟩∧Env.get env' 9= .bool false):=by
 refine pc_of fun res hr=>?_
 simp -implicitDefEqProofs [AS.get_push_at,AS.get_push_old,AS.push_len,AS.set_st_len,AS.next_st',AS.set_push_at,AS.get_set_self,AS.get_set_other,cr,Try.f23,hlen,hcx] at hr
 subst hr
 refine ⟨_,rfl,by simp[hlen],by simp[Env.get_set,hlen],fun i hi=>?_⟩
 simp only[List.mem_cons,List.not_mem_nil,or_false,not_or] at hi
 simp only[putE,get_set2,hi,false_and,if_false]
theorem r3 (cx:Cx) (env:Env) (σ:AS) (a:Nat) (me n st br bn fr pr nx:Int) (B:AV) (mo:Nat) (k:Int) (V:AV) (hlen:env.length=64) (hcx:cx.esc= []) (f0:Env.get env 0= .ptr (.hp a) 0) (f3:Env.get env 3= .int .i64 k) (hA:σ.get (.hp a)=some (.cells [.int .i64 me, .int .i64 n, .int .i64 st, .int .u64 br, .int .i64 bn, .int .i64 fr, .int .u8 pr,B, .map (.hp mo), .int .i64 nx])) (hlk:lookupA Try.prog σ 76 (.map (.hp mo)) (.int .i64 k) false=some V):
  Pc Try.prog how cx [] 64 [10,28,29,30,31,32,33] (cr [.r, .r, .l]) env σ (.normal) (σ) (fun env'=>Env.get env' 10=V):=by
 refine pc_of fun res hr=>?_
 simp -implicitDefEqProofs [-lookupA,AS.get_push_at,AS.get_push_old,AS.push_len,AS.set_st_len,AS.next_st',AS.set_push_at,AS.get_set_self,AS.get_set_other,cr,Try.f23,hlen,hcx,f0,f3,hA,hlk] at hr
 subst hr
 refine ⟨_,rfl,by simp[hlen],by simp[Env.get_set,hlen,f0,f3,hA,hlk],fun i hi=>?_⟩
 simp only[List.mem_cons,List.not_mem_nil,or_false,not_or] at hi
 simp only[putE,get_set2,hi,false_and,if_false]
theorem r4n (cx:Cx) (env:Env) (σ:AS) (hlen:env.length=64) (hcx:cx.esc= []) (f10:Env.get env 10= .nilp):
  Pc Try.prog how cx [] 64 [34,35] (cr [.r, .r, .r, .l, .l]) env σ (.normal) (σ) (fun env'=>Env.get env' 35= .bool true):=by
 refine pc_of fun res hr=>?_
 simp -implicitDefEqProofs [AS.get_push_at,AS.get_push_old,AS.push_len,AS.set_st_len,AS.next_st',AS.set_push_at,AS.get_set_self,AS.get_set_other,cr,Try.f23,hlen,hcx,f10] at hr
 subst hr
 refine ⟨_,rfl,by simp[hlen],by simp[Env.get_set,hlen,f10],fun i hi=>?_⟩
 simp only[List.mem_cons,List.not_mem_nil,or_false,not_or] at hi
 simp only[putE,get_set2,hi,false_and,if_false]
theorem r4p (cx:Cx) (env:Env) (σ:AS) (i:Nat) (hlen:env.length=64) (hcx:cx.esc= []) (f10:Env.get env 10= .ptr (.hp i) 0):
  Pc Try.prog how cx [] 64 [34,35] (cr [.r, .r, .r, .l, .l]) env σ (.normal) (σ) (fun env'=>Env.get env' 35= .bool false):=by
 refine pc_of fun res hr=>?_
 simp -implicitDefEqProofs [AS.get_push_at,AS.get_push_old,AS.push_len,AS.set_st_len,AS.next_st',AS.set_push_at,AS.get_set_self,AS.get_set_other,cr,Try.f23,hlen,hcx,f10] at hr
 subst hr
 refine ⟨_,rfl,by simp[hlen],by simp[Env.get_set,hlen,f10],fun i hi=>?_⟩
 simp only[List.mem_cons,List.not_mem_nil,or_false,not_or] at hi
 simp only[putE,get_set2,hi,false_and,if_false]
theorem r5 (cx:Cx) (env:Env) (σ:AS) (hlen:env.length=64) (hcx:cx.esc= []):
  Pc Try.prog how cx [] 64 [8,9] (cr [.r, .r, .r, .l, .r, .l, .l]) env σ (.normal) (σ) (fun env'=>Env.get env' 8= .str ⟨#[]⟩∧Env.get env' 9= .bool false):=by
 refine pc_of fun res hr=>?_
 simp -implicitDefEqProofs [AS.get_push_at,AS.get_push_old,AS.push_len,AS.set_st_len,AS.next_st',AS.set_push_at,AS.get_set_self,AS.get_set_other,cr,Try.f23,hlen,hcx] at hr
 subst hr
 refine ⟨_,rfl,by simp[hlen],by simp[Env.get_set,hlen],fun i hi=>?_⟩
 simp only[List.mem_cons,List.not_mem_nil,or_false,not_or] at hi
 simp only[putE,get_set2,hi,false_and,if_false]
theorem r6 (cx:Cx) (env:Env) (σ:AS) (i:Nat) (v:ByteArray) (m m2 k:Int) (hp s:List AObj) (hlen:env.length=64) (hcx:cx.esc= []) (f1:Env.get env 1= .int .i64 k) (f10:Env.get env 10= .ptr (.hp i) 0) (hσ:σ=⟨hp,s⟩) (hro0:cx.ro=none) (hP:(AS.mk hp s).get (.hp i)=some (.cells [.str v, .int .u8 m])) (k3:callW Try.prog how 27 [.int .u8 m, .int .i64 k] ⟨hp,s⟩ none=some (.int .u8 m2,⟨hp,s⟩)):
  Pc Try.prog how cx [] 64 [36,37,38,39,40,41,42,43,44] (cr [.r, .r, .r, .r, .l]) env σ (.normal) (AS.mk (hp.set i (.cells [.str v, .int .u8 m2])) s) (fun _=>True):=by
 refine pc_of fun res hr=>?_
 simp -implicitDefEqProofs [AS.get_push_at,AS.get_push_old,AS.push_len,AS.set_st_len,AS.next_st',AS.set_push_at,AS.get_set_self,AS.get_set_other,cr,Try.f23,hlen,hcx,f1,f10,hσ,hro0,hP,k3,AS.set,wok] at hr
 subst hr
 refine ⟨_,rfl,by simp[hlen],by simp[Env.get_set,hlen,f1,f10,hσ,hro0,hP,k3,AS.set,wok],fun i hi=>?_⟩
 simp only[List.mem_cons,List.not_mem_nil,or_false,not_or] at hi
 simp only[putE,get_set2,hi,false_and,if_false]
theorem r7 (cx:Cx) (env:Env) (σ:AS) (a:Nat) (me n st br bn fr pr nx:Int) (B O:AV) (i:Nat) (v:ByteArray) (m2:Int) (w:Bool) (hp s:List AObj) (hlen:env.length=64) (hcx:cx.esc= []) (f0:Env.get env 0= .ptr (.hp a) 0) (f10:Env.get env 10= .ptr (.hp i) 0) (hσ:σ=⟨hp,s⟩) (hA:(AS.mk hp s).get (.hp a)=some (.cells [.int .i64 me, .int .i64 n, .int .i64 st, .int .u64 br, .int .i64 bn, .int .i64 fr, .int .u8 pr,B,O, .int .i64 nx])) (hP:(AS.mk hp s).get (.hp i)=some (.cells [.str v, .int .u8 m2])) (k4:callW Try.prog how 29 [.int .u8 m2, .int .i64 n] ⟨hp,s⟩ (some s.length)=some (.bool w,⟨hp,s⟩)):
  Pc Try.prog how cx [] 64 [45,46,47,48,49,50,51,52,53,54] (cr [.r, .r, .r, .r, .r, .l, .l]) env σ (.normal) (AS.mk hp s) (fun env'=>Env.get env' 54= .bool (!w)):=by
 refine pc_of fun res hr=>?_
 simp -implicitDefEqProofs [AS.get_push_at,AS.get_push_old,AS.push_len,AS.set_st_len,AS.next_st',AS.set_push_at,AS.get_set_self,AS.get_set_other,cr,Try.f23,hlen,hcx,f0,f10,hσ,hA,hP,k4] at hr
 subst hr
 refine ⟨_,rfl,by simp[hlen],by simp[Env.get_set,hlen,f0,f10,hσ,hA,hP,k4],fun i hi=>?_⟩
 simp only[List.mem_cons,List.not_mem_nil,or_false,not_or] at hi
 simp only[putE,get_set2,hi,false_and,if_false]
theorem r8 (cx:Cx) (env:Env) (σ:AS) (hlen:env.length=64) (hcx:cx.esc= []):
  Pc Try.prog how cx [] 64 [8,9] (cr [.r, .r, .r, .r, .r, .l, .r, .l, .l]) env σ (.normal) (σ) (fun env'=>Env.get env' 8= .str ⟨#[]⟩∧Env.get env' 9= .bool false):=by
 refine pc_of fun res hr=>?_
 simp -implicitDefEqProofs [AS.get_push_at,AS.get_push_old,AS.push_len,AS.set_st_len,AS.next_st',AS.set_push_at,AS.get_set_self,AS.get_set_other,cr,Try.f23,hlen,hcx] at hr
 subst hr
 refine ⟨_,rfl,by simp[hlen],by simp[Env.get_set,hlen],fun i hi=>?_⟩
 simp only[List.mem_cons,List.not_mem_nil,or_false,not_or] at hi
 simp only[putE,get_set2,hi,false_and,if_false]
theorem r9 (cx:Cx) (env:Env) (σ:AS) (a:Nat) (me n st br bn fr pr nx:Int) (B:AV) (mo:Nat) (k:Int) (hp2:List AObj) (hp s:List AObj) (hlen:env.length=64) (hcx:cx.esc= []) (f0:Env.get env 0= .ptr (.hp a) 0) (f3:Env.get env 3= .int .i64 k) (hσ:σ=⟨hp,s⟩) (hA:(AS.mk hp s).get (.hp a)=some (.cells [.int .i64 me, .int .i64 n, .int .i64 st, .int .u64 br, .int .i64 bn, .int .i64 fr, .int .u8 pr,B, .map (.hp mo), .int .i64 nx])) (hdel:deleteA Try.prog cx ⟨hp,s⟩ 76 (.map (.hp mo)) (.int .i64 k)=some ⟨hp2,s⟩):
  Pc Try.prog how cx [] 64 [55,56,57,58,59] (cr [.r, .r, .r, .r, .r, .r, .l]) env σ (.normal) (AS.mk hp2 s) (fun _=>True):=by
 refine pc_of fun res hr=>?_
 simp -implicitDefEqProofs [AS.get_push_at,AS.get_push_old,AS.push_len,AS.set_st_len,AS.next_st',AS.set_push_at,AS.get_set_self,AS.get_set_other,cr,Try.f23,hlen,hcx,f0,f3,hσ,hA,hdel] at hr
 subst hr
 refine ⟨_,rfl,by simp[hlen],by simp[Env.get_set,hlen,f0,f3,hσ,hA,hdel],fun i hi=>?_⟩
 simp only[List.mem_cons,List.not_mem_nil,or_false,not_or] at hi
 simp only[putE,get_set2,hi,false_and,if_false]
theorem r10 (cx:Cx) (env:Env) (σ:AS) (i:Nat) (v:ByteArray) (m2:Int) (hlen:env.length=64) (hcx:cx.esc= []) (f10:Env.get env 10= .ptr (.hp i) 0) (hP:σ.get (.hp i)=some (.cells [.str v, .int .u8 m2])):
  Pc Try.prog how cx [] 64 [8,9,60,61,62,63] (cr [.r, .r, .r, .r, .r, .r, .r, .l]) env σ (.normal) (σ) (fun env'=>Env.get env' 8= .str v∧Env.get env' 9= .bool true):=by
 refine pc_of fun res hr=>?_
 simp -implicitDefEqProofs [AS.get_push_at,AS.get_push_old,AS.push_len,AS.set_st_len,AS.next_st',AS.set_push_at,AS.get_set_self,AS.get_set_other,cr,Try.f23,hlen,hcx,f10,hP] at hr
 subst hr
 refine ⟨_,rfl,by simp[hlen],by simp[Env.get_set,hlen,f10,hP],fun i hi=>?_⟩
 simp only[List.mem_cons,List.not_mem_nil,or_false,not_or] at hi
 simp only[putE,get_set2,hi,false_and,if_false]
end
noncomputable def bodyC:Code:=(.seq (cr [.l]) (.seq (.seq (cr [.r, .l, .l]) (.cond (.tmp 27) (.seq (cr [.r, .l, .r, .l, .l]) .ret) .skip)) (.seq (cr [.r, .r, .l]) (.seq (.seq (cr [.r, .r, .r, .l, .l]) (.cond (.tmp 35) (.seq (cr [.r, .r, .r, .l, .r, .l, .l]) .ret) .skip)) (.seq (cr [.r, .r, .r, .r, .l]) (.seq (.seq (cr [.r, .r, .r, .r, .r, .l, .l]) (.cond (.tmp 54) (.seq (cr [.r, .r, .r, .r, .r, .l, .r, .l, .l]) .ret) .skip)) (.seq (cr [.r, .r, .r, .r, .r, .r, .l]) (.seq (cr [.r, .r, .r, .r, .r, .r, .r, .l]) .ret))))))))
theorem body:Try.f23.body=some bodyC:=by kernel_rfl
theorem ok (hp s:List AObj) (a:Nat) (me n k rd rn slot:Int) (p:Lv) (F:List Nat) (h:StL hp a me n p F) (hmk: ∀e∈p.op,MOk e.2.2) (hasc:p.op.Pairwise fun a b=>a.1<b.1):
  ∃hp' F',callW Try.prog how 23 [.ptr (.hp a) 0, .int .i64 k, .agg [.int .u64 rd, .int .i64 rn], .int .i64 slot] ⟨hp,s⟩ none=some (ansA (accL n p k rd rn slot).2,⟨hp',s⟩)∧StL hp' a me n (accL n p k rd rn slot).1 F'∧Stp hp hp' a F F':=by
 let cx:Cx:={h:=s.length,ro:=none,esc:= []}
 have hcx:cx.esc= []:=rfl
 have hro: ∀k,cx.ro=some k→k≤cx.h:=fun k hk=>by cases hk
 obtain ⟨env,henv⟩: ∃e,e=frameA Try.f23 [.ptr (.hp a) 0, .int .i64 k, .agg [.int .u64 rd, .int .i64 rn], .int .i64 slot]:=⟨_,rfl⟩
 have hlen:env.length=64:=by rw[henv]; rfl
 have f0:Env.get env 0= .ptr (.hp a) 0:=by rw[henv]; rfl
 have f1:Env.get env 1= .int .i64 k:=by rw[henv]; rfl
 have f2:Env.get env 2= .agg [.int .u64 rd, .int .i64 rn]:=by rw[henv]; rfl
 have f3:Env.get env 3= .int .i64 slot:=by rw[henv]; rfl
 have ho:Outside s.length (AS.mk hp s) (AS.mk hp s):=Outside.refl (Nat.le_refl _)
 obtain ⟨B,O,hA⟩:=h.at_
 have hal:=at_lt2 hA
 obtain ⟨env1,x1a,x1b,x1c,x1d⟩:=rA cx env (AS.mk hp s) hp s rd rn hlen hcx f2 rfl rfl
 have f0:=(x1d 0 (by decide)).trans f0
 have f1:=(x1d 1 (by decide)).trans f1
 have f2:=(x1d 2 (by decide)).trans f2
 have f3:=(x1d 3 (by decide)).trans f3
 have f6:=x1c.1
 have f8:=x1c.2.1
 have f9:=x1c.2.2
 have k1:=state_c hp (s++ [AObj.cells [.int .u64 rd, .int .i64 rn]]) (some (s++ [AObj.cells [.int .u64 rd, .int .i64 rn]]).length) a me n p.st p.br p.bn p.fr p.pr p.nx B O (fun k hk=>by cases hk; exact Nat.le_refl _) (fun _=>hA)
 have k2:=one_c hp (s++ [AObj.cells [.int .u64 rd, .int .i64 rn]]) (some (s++ [AObj.cells [.int .u64 rd, .int .i64 rn]]).length) a me n p.st p.br p.bn p.fr p.pr p.nx B O k (fun k hk=>by cases hk; exact Nat.le_refl _) (fun _=>hA)
 obtain ⟨env2,x2a,x2b,x2c,x2d⟩:=r1 cx env1 (AS.mk hp (s++ [AObj.cells [.int .u64 rd, .int .i64 rn]])) a me n p.st p.br p.bn p.fr p.pr p.nx B O rd rn k _ s.length hp ((s++ [AObj.cells [.int .u64 rd, .int .i64 rn]])) x1b hcx f0 f1 f6 rfl hA (by simp[AS.get]) k1 k2
 have f0:=(x2d 0 (by decide)).trans f0
 have f1:=(x2d 1 (by decide)).trans f1
 have f2:=(x2d 2 (by decide)).trans f2
 have f3:=(x2d 3 (by decide)).trans f3
 have f6:=(x2d 6 (by decide)).trans f6
 have f8:=(x2d 8 (by decide)).trans f8
 have f9:=(x2d 9 (by decide)).trans f9
 have f27:=x2c
 have f27:Env.get env2 27= .bool (!accOkL n p k rd rn):=f27
 have ev1:=ev_tmp f27
 cases q:accOkL n p k rd rn with
 | false=>
  rw[q] at ev1
  obtain ⟨env3,x3a,x3b,x3c,x3d⟩:=r2 cx env2 (AS.mk hp (s++ [AObj.cells [.int .u64 rd, .int .i64 rn]])) x2b hcx
  have f0:=(x3d 0 (by decide)).trans f0
  have f1:=(x3d 1 (by decide)).trans f1
  have f2:=(x3d 2 (by decide)).trans f2
  have f3:=(x3d 3 (by decide)).trans f3
  have f6:=(x3d 6 (by decide)).trans f6
  have f27:=(x3d 27 (by decide)).trans f27
  have f8:=x3c.1
  have f9:=x3c.2
  have e1:accL n p k rd rn slot=(p,none):=by unfold accL; rw[q]; rfl
  rw[e1]
  exact ⟨hp,F,call_of (fl:={}) (fn:=Try.f23) (c:=bodyC) (env:=env) (e:=(.ret,(env3,AS.mk hp (s++ [AObj.cells [.int .u64 rd, .int .i64 rn]])))) rfl Try.func23 body henv (by unfold bodyC; exact (execW_seq_of x1a (execW_seq_ret (execW_seq_of x2a (execW_cond_t ev1 (execW_seq_of x3a (by rfl))))))) ((fin_two (w:=ansA none) (.inl rfl) rfl (v:= .str ⟨#[]⟩) (v':= .bool false) (by simp[Try.f23,resA,f8,f9]) (by simp[AV.back,AVs.back,ansA]) (by simp[AV.inb,AVs.inb,ansA])).trans (by simp)),h,Stp.refl _ _ _⟩
 | true=>
  rw[q] at ev1
  have hst:p.st=2:=by
   have q':=q
   simp only[accOkL,Bool.and_eq_true,decide_eq_true_eq] at q'
   exact q'.1.1
  have e0:accL n p k rd rn slot=(match mget slot p.op with
    | none=>(p,none)
    | some (v,m)=>if winsM (withM m k) n=true then ({p with op:=dropK slot p.op},some v) else ({p with op:=mput slot (v,withM m k) p.op},none)):=by
   unfold accL; rw[if_pos q]; cases mget slot p.op <;> rfl
  rcases h with ⟨rfl,_,_⟩ | ⟨hst0,mb,mo,L,h,rfl⟩
  ·exact absurd hst (by decide)
  have hna:=h.na
  simp only[List.mem_cons,not_or] at hna
  obtain ⟨hab,hao,haL⟩:=hna
  have hnd:=h.nd
  simp only[List.nodup_cons,List.mem_cons,not_or] at hnd
  obtain ⟨⟨hbo,hbL⟩,hoL,hL⟩:=hnd
  have hlk:=lookup_p (AS.mk hp (s++ [AObj.cells [.int .u64 rd, .int .i64 rn]])) mo L slot h.oO
  rw[h.op,mget_find] at e0
  obtain ⟨env3,x3a,x3b,x3c,x3d⟩:=r3 cx env2 (AS.mk hp (s++ [AObj.cells [.int .u64 rd, .int .i64 rn]])) a me n p.st p.br p.bn p.fr p.pr p.nx _ mo slot _ x2b hcx f0 f3 h.oA hlk
  have f0:=(x3d 0 (by decide)).trans f0
  have f1:=(x3d 1 (by decide)).trans f1
  have f2:=(x3d 2 (by decide)).trans f2
  have f3:=(x3d 3 (by decide)).trans f3
  have f6:=(x3d 6 (by decide)).trans f6
  have f8:=(x3d 8 (by decide)).trans f8
  have f9:=(x3d 9 (by decide)).trans f9
  have f27:=(x3d 27 (by decide)).trans f27
  have f10:=x3c
  cases hf:L.find? (fun e=>decide (e.s=slot)) with
  | none=>
   rw[hf] at e0 f10
   rw[e0]
   obtain ⟨env4,x4a,x4b,x4c,x4d⟩:=r4n cx env3 (AS.mk hp (s++ [AObj.cells [.int .u64 rd, .int .i64 rn]])) x3b hcx f10
   have f0:=(x4d 0 (by decide)).trans f0
   have f1:=(x4d 1 (by decide)).trans f1
   have f2:=(x4d 2 (by decide)).trans f2
   have f3:=(x4d 3 (by decide)).trans f3
   have f6:=(x4d 6 (by decide)).trans f6
   have f8:=(x4d 8 (by decide)).trans f8
   have f9:=(x4d 9 (by decide)).trans f9
   have f10:=(x4d 10 (by decide)).trans f10
   have f27:=(x4d 27 (by decide)).trans f27
   have f35:=x4c
   have ev2:=ev_tmp f35
   obtain ⟨env5,x5a,x5b,x5c,x5d⟩:=r5 cx env4 (AS.mk hp (s++ [AObj.cells [.int .u64 rd, .int .i64 rn]])) x4b hcx
   have f0:=(x5d 0 (by decide)).trans f0
   have f1:=(x5d 1 (by decide)).trans f1
   have f2:=(x5d 2 (by decide)).trans f2
   have f3:=(x5d 3 (by decide)).trans f3
   have f6:=(x5d 6 (by decide)).trans f6
   have f10:=(x5d 10 (by decide)).trans f10
   have f27:=(x5d 27 (by decide)).trans f27
   have f35:=(x5d 35 (by decide)).trans f35
   have f8:=x5c.1
   have f9:=x5c.2
   exact ⟨hp,_,call_of (fl:={}) (fn:=Try.f23) (c:=bodyC) (env:=env) (e:=(.ret,(env5,AS.mk hp (s++ [AObj.cells [.int .u64 rd, .int .i64 rn]])))) rfl Try.func23 body henv (by unfold bodyC; exact (execW_seq_of x1a (execW_seq_of (execW_seq_of x2a (execW_cond_f ev1 (by rfl))) (execW_seq_of x3a (execW_seq_ret (execW_seq_of x4a (execW_cond_t ev2 (execW_seq_of x5a (by rfl))))))))) ((fin_two (w:=ansA none) (.inl rfl) rfl (v:= .str ⟨#[]⟩) (v':= .bool false) (by simp[Try.f23,resA,f8,f9]) (by simp[AV.back,AVs.back,ansA]) (by simp[AV.inb,AVs.inb,ansA])).trans (by simp)), .inr ⟨hst0,mb,mo,L,h,rfl⟩,Stp.refl _ _ _⟩
  | some y=>
   rw[hf] at e0 f10
   obtain ⟨env4,x4a,x4b,x4c,x4d⟩:=r4p cx env3 (AS.mk hp (s++ [AObj.cells [.int .u64 rd, .int .i64 rn]])) y.i x3b hcx f10
   have f0:=(x4d 0 (by decide)).trans f0
   have f1:=(x4d 1 (by decide)).trans f1
   have f2:=(x4d 2 (by decide)).trans f2
   have f3:=(x4d 3 (by decide)).trans f3
   have f6:=(x4d 6 (by decide)).trans f6
   have f8:=(x4d 8 (by decide)).trans f8
   have f9:=(x4d 9 (by decide)).trans f9
   have f10:=(x4d 10 (by decide)).trans f10
   have f27:=(x4d 27 (by decide)).trans f27
   have f35:=x4c
   have ev2:=ev_tmp f35
   have hy:=List.mem_of_find?_eq_some hf
   have hyi:y.i∈L.map (·.i):=List.mem_map_of_mem hy
   have hai:a≠y.i:=fun e=>haL (by rw[e]; exact hyi)
   have hbi:mb≠y.i:=fun e=>hbL (by rw[e]; exact hyi)
   have hoi:mo≠y.i:=fun e=>hoL (by rw[e]; exact hyi)
   have hP:=h.oP y hy
   have hmy:MOk y.m:=hmk (tripP y) (by rw[h.op]; exact List.mem_map_of_mem hy)
   have hpos:(pp:Lv)→pp=p→pp.op=p.op:=fun _ e=>by rw[e]
   have k3:=with_c hp (s++ [AObj.cells [.int .u64 rd, .int .i64 rn]]) none y.m k (fun k hk=>by cases hk) hmy
   obtain ⟨env5,x5a,x5b,x5c,x5d⟩:=r6 cx env4 (AS.mk hp (s++ [AObj.cells [.int .u64 rd, .int .i64 rn]])) y.i y.v y.m ((withM y.m k)) k hp ((s++ [AObj.cells [.int .u64 rd, .int .i64 rn]])) x4b hcx f1 f10 rfl rfl hP k3
   have f0:=(x5d 0 (by decide)).trans f0
   have f1:=(x5d 1 (by decide)).trans f1
   have f2:=(x5d 2 (by decide)).trans f2
   have f3:=(x5d 3 (by decide)).trans f3
   have f6:=(x5d 6 (by decide)).trans f6
   have f8:=(x5d 8 (by decide)).trans f8
   have f9:=(x5d 9 (by decide)).trans f9
   have f10:=(x5d 10 (by decide)).trans f10
   have f27:=(x5d 27 (by decide)).trans f27
   have f35:=(x5d 35 (by decide)).trans f35
   have hA1:(hp.set y.i (.cells [.str y.v, .int .u8 (withM y.m k)]))[a]?=some (.cells (cellsL me n p (.map (.hp mb)) (.map (.hp mo)))):=by rw[List.getElem?_set_ne (fun e=>hai e.symm)]; exact h.oA
   have hP1:(hp.set y.i (.cells [.str y.v, .int .u8 (withM y.m k)]))[y.i]?=some (.cells [.str y.v, .int .u8 (withM y.m k)]):=List.getElem?_set_self (at_lt2 hP)
   have hO1:(hp.set y.i (.cells [.str y.v, .int .u8 (withM y.m k)]))[mo]?=some (.map (L.map entP)):=by rw[List.getElem?_set_ne (fun e=>hoi e.symm)]; exact h.oO
   have hB1:(hp.set y.i (.cells [.str y.v, .int .u8 (withM y.m k)]))[mb]?=some (.map (p.best.map (ment kI encVt))):=by rw[List.getElem?_set_ne (fun e=>hbi e.symm)]; exact h.oB
   have k4:=wins_c (hp.set y.i (.cells [.str y.v, .int .u8 (withM y.m k)])) (s++ [AObj.cells [.int .u64 rd, .int .i64 rn]]) (some (s++ [AObj.cells [.int .u64 rd, .int .i64 rn]]).length) (withM y.m k) n (fun k hk=>by cases hk; exact Nat.le_refl _) (with_ok hmy)
   obtain ⟨env6,x6a,x6b,x6c,x6d⟩:=r7 cx env5 (AS.mk (hp.set y.i (.cells [.str y.v, .int .u8 (withM y.m k)])) (s++ [AObj.cells [.int .u64 rd, .int .i64 rn]])) a me n p.st p.br p.bn p.fr p.pr p.nx _ _ y.i y.v ((withM y.m k)) _ ((hp.set y.i (.cells [.str y.v, .int .u8 (withM y.m k)]))) ((s++ [AObj.cells [.int .u64 rd, .int .i64 rn]])) x5b hcx f0 f10 rfl hA1 hP1 k4
   have f0:=(x6d 0 (by decide)).trans f0
   have f1:=(x6d 1 (by decide)).trans f1
   have f2:=(x6d 2 (by decide)).trans f2
   have f3:=(x6d 3 (by decide)).trans f3
   have f6:=(x6d 6 (by decide)).trans f6
   have f8:=(x6d 8 (by decide)).trans f8
   have f9:=(x6d 9 (by decide)).trans f9
   have f10:=(x6d 10 (by decide)).trans f10
   have f27:=(x6d 27 (by decide)).trans f27
   have f35:=(x6d 35 (by decide)).trans f35
   have f54:=x6c
   have ev3:=ev_tmp f54
   simp only[Option.map_some] at e0
   cases hw:winsM (withM y.m k) n with
   | false=>
    rw[hw] at ev3 e0
    simp only[Bool.false_eq_true,if_false] at e0
    rw[e0]
    obtain ⟨env7,x7a,x7b,x7c,x7d⟩:=r8 cx env6 (AS.mk (hp.set y.i (.cells [.str y.v, .int .u8 (withM y.m k)])) (s++ [AObj.cells [.int .u64 rd, .int .i64 rn]])) x6b hcx
    have f0:=(x7d 0 (by decide)).trans f0
    have f1:=(x7d 1 (by decide)).trans f1
    have f2:=(x7d 2 (by decide)).trans f2
    have f3:=(x7d 3 (by decide)).trans f3
    have f6:=(x7d 6 (by decide)).trans f6
    have f10:=(x7d 10 (by decide)).trans f10
    have f27:=(x7d 27 (by decide)).trans f27
    have f35:=(x7d 35 (by decide)).trans f35
    have f54:=(x7d 54 (by decide)).trans f54
    have f8:=x7c.1
    have f9:=x7c.2
    refine ⟨(hp.set y.i (.cells [.str y.v, .int .u8 (withM y.m k)])),_,call_of (fl:={}) (fn:=Try.f23) (c:=bodyC) (env:=env) (e:=(.ret,(env7,AS.mk (hp.set y.i (.cells [.str y.v, .int .u8 (withM y.m k)])) (s++ [AObj.cells [.int .u64 rd, .int .i64 rn]])))) rfl Try.func23 body henv (by unfold bodyC; exact (execW_seq_of x1a (execW_seq_of (execW_seq_of x2a (execW_cond_f ev1 (by rfl))) (execW_seq_of x3a (execW_seq_of (execW_seq_of x4a (execW_cond_f ev2 (by rfl))) (execW_seq_of x5a (execW_seq_ret (execW_seq_of x6a (execW_cond_t ev3 (execW_seq_of x7a (by rfl))))))))))) ((fin_two (w:=ansA none) (.inl rfl) rfl (v:= .str ⟨#[]⟩) (v':= .bool false) (by simp[Try.f23,resA,f8,f9]) (by simp[AV.back,AVs.back,ansA]) (by simp[AV.inb,AVs.inb,ansA])).trans (by simp)), .inr ⟨hst0,mb,mo,putP slot (withM y.m k) L,?_,rfl⟩,?_,?_⟩
    ·exact {
      oA:=hA1
      oB:=hB1
      oO:=by rw[putP_ent]; exact hO1
      op:=(putP_trip hf).symm
      oP:=fun x hx=>by
       rcases putP_mem hL hf x hx with rfl | ⟨h1,h2⟩
       ·exact hP1
       ·rw[List.getElem?_set_ne (fun e=>h2 e.symm)]; exact h.oP x h1
      nd:=by rw[putP_i]; exact h.nd
      na:=by rw[putP_i]; exact h.na}
    ·exact Kp.set hp _ _ _ (by simp only[List.mem_cons]; exact .inr (.inr (.inr hyi)))
    ·rw[putP_i]; exact fun i hi=> .inl hi
   | true=>
    rw[hw] at ev3 e0
    simp only[if_true] at e0
    rw[e0]
    have hdel:deleteA Try.prog cx ⟨(hp.set y.i (.cells [.str y.v, .int .u8 (withM y.m k)])),(s++ [AObj.cells [.int .u64 rd, .int .i64 rn]])⟩ 76 (.map (.hp mo)) (.int .i64 slot)=some ⟨((hp.set y.i (.cells [.str y.v, .int .u8 (withM y.m k)])).set mo (.map ((dropP slot L).map entP))),(s++ [AObj.cells [.int .u64 rd, .int .i64 rn]])⟩:=by
     have hg:(AS.mk (hp.set y.i (.cells [.str y.v, .int .u8 (withM y.m k)])) (s++ [AObj.cells [.int .u64 rd, .int .i64 rn]])).get (.hp mo)=some (.map (L.map entP)):=hO1
     have hwk:wok cx.ro (.hp mo)=true:=rfl
     simp only[deleteA,Try.underlying76,Try.underlying3,keyFits,decide_true,if_true,hg,hwk,dropA_p]
     rfl
    obtain ⟨env7,x7a,x7b,x7c,x7d⟩:=r9 cx env6 (AS.mk (hp.set y.i (.cells [.str y.v, .int .u8 (withM y.m k)])) (s++ [AObj.cells [.int .u64 rd, .int .i64 rn]])) a me n p.st p.br p.bn p.fr p.pr p.nx _ mo slot (((hp.set y.i (.cells [.str y.v, .int .u8 (withM y.m k)])).set mo (.map ((dropP slot L).map entP)))) ((hp.set y.i (.cells [.str y.v, .int .u8 (withM y.m k)]))) ((s++ [AObj.cells [.int .u64 rd, .int .i64 rn]])) x6b hcx f0 f3 rfl hA1 hdel
    have f0:=(x7d 0 (by decide)).trans f0
    have f1:=(x7d 1 (by decide)).trans f1
    have f2:=(x7d 2 (by decide)).trans f2
    have f3:=(x7d 3 (by decide)).trans f3
    have f6:=(x7d 6 (by decide)).trans f6
    have f8:=(x7d 8 (by decide)).trans f8
    have f9:=(x7d 9 (by decide)).trans f9
    have f10:=(x7d 10 (by decide)).trans f10
    have f27:=(x7d 27 (by decide)).trans f27
    have f35:=(x7d 35 (by decide)).trans f35
    have f54:=(x7d 54 (by decide)).trans f54
    have hP2:((hp.set y.i (.cells [.str y.v, .int .u8 (withM y.m k)])).set mo (.map ((dropP slot L).map entP)))[y.i]?=some (.cells [.str y.v, .int .u8 (withM y.m k)]):=by rw[List.getElem?_set_ne hoi]; exact hP1
    obtain ⟨env8,x8a,x8b,x8c,x8d⟩:=r10 cx env7 (AS.mk ((hp.set y.i (.cells [.str y.v, .int .u8 (withM y.m k)])).set mo (.map ((dropP slot L).map entP))) (s++ [AObj.cells [.int .u64 rd, .int .i64 rn]])) y.i y.v _ x7b hcx f10 hP2
    have f0:=(x8d 0 (by decide)).trans f0
    have f1:=(x8d 1 (by decide)).trans f1
    have f2:=(x8d 2 (by decide)).trans f2
    have f3:=(x8d 3 (by decide)).trans f3
    have f6:=(x8d 6 (by decide)).trans f6
    have f10:=(x8d 10 (by decide)).trans f10
    have f27:=(x8d 27 (by decide)).trans f27
    have f35:=(x8d 35 (by decide)).trans f35
    have f54:=(x8d 54 (by decide)).trans f54
    have f8:=x8c.1
    have f9:=x8c.2
    have hsub:=dropP_sub slot L
    have hLo:(mo ::(dropP slot L).map (·.i)).Nodup:=by
     rw[List.nodup_cons]
     exact ⟨fun hm=>hoL ((hsub.map _).subset hm),hL.sublist (hsub.map _)⟩
    refine ⟨((hp.set y.i (.cells [.str y.v, .int .u8 (withM y.m k)])).set mo (.map ((dropP slot L).map entP))),mb :: mo ::(dropP slot L).map (·.i),call_of (fl:={}) (fn:=Try.f23) (c:=bodyC) (env:=env) (e:=(.ret,(env8,AS.mk ((hp.set y.i (.cells [.str y.v, .int .u8 (withM y.m k)])).set mo (.map ((dropP slot L).map entP))) (s++ [AObj.cells [.int .u64 rd, .int .i64 rn]])))) rfl Try.func23 body henv (by unfold bodyC; exact (execW_seq_of x1a (execW_seq_of (execW_seq_of x2a (execW_cond_f ev1 (by rfl))) (execW_seq_of x3a (execW_seq_of (execW_seq_of x4a (execW_cond_f ev2 (by rfl))) (execW_seq_of x5a (execW_seq_of (execW_seq_of x6a (execW_cond_f ev3 (by rfl))) (execW_seq_of x7a (execW_seq_of x8a (by rfl)))))))))) ((fin_two (w:=ansA (some y.v)) (.inl rfl) rfl (v:= .str y.v) (v':= .bool true) (by simp[Try.f23,resA,f8,f9]) (by simp[AV.back,AVs.back,ansA]) (by simp[AV.inb,AVs.inb,ansA])).trans (by simp)), .inr ⟨hst0,mb,mo,dropP slot L,?_,rfl⟩,?_,?_⟩
    ·exact {
      oA:=by rw[List.getElem?_set_ne (fun e=>hao e.symm)]; exact hA1
      oB:=by rw[List.getElem?_set_ne (fun e=>hbo e.symm)]; exact hB1
      oO:=List.getElem?_set_self (at_lt2 hO1)
      op:=by
       have hp':L.Pairwise fun a b=>a.s<b.s:=by rw[h.op,List.pairwise_map] at hasc; exact hasc
       show dropK slot (L.map tripP)=_
       rw[dropP_filter hp']
       unfold dropK
       rw[List.filter_map]
       rfl
      oP:=fun x hx=>by
       have hxL:=hsub.subset hx
       have hxi:x.i∈L.map (·.i):=List.mem_map_of_mem hxL
       have hne:y.i≠x.i:=fun e=>by
        have hp':L.Pairwise fun a b=>a.s<b.s:=by rw[h.op,List.pairwise_map] at hasc; exact hasc
        rw[dropP_filter hp'] at hx
        have h1:=(List.mem_filter.1 hx).2
        have h2:y=x:=inj_i hL hy hxL e
        have h3:=List.find?_some hf
        rw[h2] at h3
        simp at h1 h3
        exact h1 h3
       rw[List.getElem?_set_ne (fun e=>hoL (by rw[e]; exact hxi)),List.getElem?_set_ne hne]
       exact h.oP x hxL
      nd:=by
       rw[List.nodup_cons]
       refine ⟨?_,hLo⟩
       simp only[List.mem_cons,not_or]
       exact ⟨hbo,fun hm=>hbL ((hsub.map _).subset hm)⟩
      na:=by
       simp only[List.mem_cons,not_or]
       exact ⟨hab,hao,fun hm=>haL ((hsub.map _).subset hm)⟩}
    ·exact (Kp.set hp _ _ _ (by simp only[List.mem_cons]; exact .inr (.inr (.inr hyi)))).trans (Kp.set _ mo _ _ (by simp))
    ·intro i hi
     simp only[List.mem_cons] at hi ⊢
     rcases hi with hi | hi | hi
     ·exact .inl (.inl hi)
     ·exact .inl (.inr (.inl hi))
     ·exact .inl (.inr (.inr ((hsub.map _).subset hi)))
end LAcc
