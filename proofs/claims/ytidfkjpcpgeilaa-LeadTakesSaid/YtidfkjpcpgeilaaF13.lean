/- Walk 13. -/

import Derived.Test.YtidfkjpcpgeilaaF12
open Go Go.Abs Go.Proofs
set_option maxRecDepth 100000
set_option maxHeartbeats 4000000
set_option linter.unusedSimpArgs false
set_option linter.unusedVariables false
open Ldr
theorem appK:AppOk Try.prog 39 2 16:=⟨120, .slice 120,by simp[elemA],by simp,by simp,by kernel_rfl,rfl,by decide,by simp[AV.cells]⟩
theorem rdRw {hp:List AObj} {O:AV} {l:List (Int×ByteArray)} {G:List Nat} (h:HRw 2 hp O (l.map encRw) G) (st:List AObj):Rd Try.prog ⟨hp,st⟩ 40 47 O (l.map encRw):=
 h.rd (by simp) s47 (by decide) fun c hc=>by
  obtain ⟨v,_,rfl⟩:=List.mem_map.1 hc
  simp[partA,aggA,isAggD,encRw,AV.cells]
theorem rdAk {hp:List AObj} {A:AV} {l:List (Int×Int)} {G:List Nat} (h:HRw 2 hp A (l.map encAk) G) (st:List AObj):Rd Try.prog ⟨hp,st⟩ 39 120 A (l.map encAk):=
 h.rd (by simp) s120 (by decide) fun c hc=>by
  obtain ⟨v,_,rfl⟩:=List.mem_map.1 hc
  simp[partA,aggA,isAggD,encAk,AV.cells]
def atF (slot:Int) (l:List (Int×ByteArray)):Nat→Int
 | 0=> -1
 | k+1=>if (l.getD k (0,⟨#[]⟩)).1=slot then (k:Int) else atF slot l k
theorem atF_no {slot:Int} {l:List (Int×ByteArray)}: ∀k,k≤l.length→(∀e∈l,e.1≠slot)→atF slot l k= -1
 | 0,_,_=>rfl
 | k+1,hk,h=>by
  have hg:l.getD k (0,⟨#[]⟩)=l[k]'(by omega):=by rw[List.getD_eq_getElem?_getD,List.getElem?_eq_getElem (by omega)]; rfl
  unfold atF
  rw[hg,if_neg (h _ (List.getElem_mem _)),atF_no k (by omega) h]
theorem atF_yes {slot:Int} {l:List (Int×ByteArray)} {j:Nat} (hj:j<l.length) (hs:l[j].1=slot) (hu: ∀i (h:i<l.length),l[i].1=slot→i=j): ∀k,j<k→k≤l.length→atF slot l k=(j:Int)
 | 0,h,_=>by omega
 | k+1,h,hk=>by
  have hg:l.getD k (0,⟨#[]⟩)=l[k]'(by omega):=by rw[List.getD_eq_getElem?_getD,List.getElem?_eq_getElem (by omega)]; rfl
  unfold atF
  rw[hg]
  by_cases q:(l[k]'(by omega)).1=slot
  ·rw[if_pos q]
   have:=hu k (by omega) q
   omega
  ·rw[if_neg q]
   have:j≠k:=fun e=>q (by subst e; exact hs)
   exact atF_yes hj hs hu k (by omega) (by omega)
theorem asc_at {l:List (Int×ByteArray)} (h:l.Pairwise fun a b=>a.1<b.1) {i j:Nat} (hi:i<l.length) (hj:j<l.length) (e:l[i].1=l[j].1):i=j:=by
 rcases Nat.lt_trichotomy i j with q | q | q
 ·have:=List.pairwise_iff_getElem.1 h i j hi hj q; omega
 ·exact q
 ·have:=List.pairwise_iff_getElem.1 h j i hj hi q; omega
def dupA (node slot:Int) (l:List (Int×Int)):Bool:=l.any fun a=>decide (a.2=slot) && decide (a.1=node)
def cntA (slot:Int) (l:List (Int×Int)):Nat:=(l.filter fun a=>decide (a.2=slot)).length
theorem dupA_succ {node slot:Int} {l:List (Int×Int)} {k:Nat} (hk:k<l.length):dupA node slot (l.take (k+1))=(dupA node slot (l.take k) || (decide (l[k].2=slot) && decide (l[k].1=node))):=by
 unfold dupA
 rw[List.take_succ_eq_append_getElem hk,List.any_append]
 simp
theorem dupA_at {node slot:Int} {l:List (Int×Int)} {k:Nat} (hk:k<l.length) (h:(decide (l[k].2=slot) && decide (l[k].1=node))=true):dupA node slot l=true:=List.any_eq_true.2 ⟨l[k],List.getElem_mem hk,h⟩
theorem cntA_succ {slot:Int} {l:List (Int×Int)} {k:Nat} (hk:k<l.length):cntA slot (l.take (k+1))=cntA slot (l.take k)+if l[k].2=slot then 1 else 0:=by
 unfold cntA
 rw[List.take_succ_eq_append_getElem hk,List.filter_append,List.length_append]
 congr 1
 by_cases h:l[k].2=slot <;> simp[h]
theorem cntA_le (slot:Int) (l:List (Int×Int)):cntA slot l≤l.length:=List.length_filter_le _ _
theorem filter_succ {α:Type} {p:α→Bool} {l:List α} {k:Nat} (hk:k<l.length):(l.take (k+1)).filter p=(l.take k).filter p++if p l[k]=true then [l[k]] else []:=by
 rw[List.take_succ_eq_append_getElem hk,List.filter_append]
 congr 1
 by_cases h:p l[k]=true <;> simp[h]
namespace RAcc
noncomputable def cr (p:List Dir):Code:=sub p (bodyOf Try.f37)
section
attribute [local simp] ofV ofCell ofCells seqA_nil seqA_cons seqVK_eq seqEK_eq wantedA yieldedA isVal effA ev evs evps putE optsA optsOk valA fieldAddrA fieldA loadA partA aggA isAggD buildA placesA fillA lay storeA AV.withCells buildSliceA elemsA rowParts fzL promL okE isSrc bytesOk pushA cxOf lenA binA intBinA strBinA unA indexAddrA eqA AVs.inb AV.inb Loc.inb calleeA opsOf sub bodyOf Env.get_set quietA_nil quietA_cons quietK_none quietK_some qstep newA isNew escNew boxOk newLoc flat rowPartsQ quietN quietOp isBS List.takeWhile finishA_eq finK_ret finK_normal retK backK resA oneA AV.back AVs.back execW_seq_eq seqK_normal seqK_ret seqK_exit execW_cond_eq condK_true condK_false execW_block_eq blockK_exit blockK_normal blockK_ret execW_region_eq regK_eq execW_skip execW_exit execW_ret regionA_plain regionA_quiet0 tailK_eq nilCheckA guardOk isConst lookupA keyFits mapUpdateA beqI bneI
theorem rA (cx:Cx) (env:Env) (σ:AS) (hp s:List AObj) (rd rn:Int) (hlen:env.length=141) (hcx:cx.esc= []) (f2:Env.get env 2= .agg [.int .u64 rd, .int .i64 rn]) (hσ:σ=⟨hp,s⟩) (hro0:cx.ro=none):
  Pc Try.prog how cx [] 141 [6,8,9] (cr [.l]) env σ (.normal) (AS.mk hp (s++ [.cells [.int .u64 rd, .int .i64 rn]])) (fun env'=>Env.get env' 6= .ptr (.st s.length) 0∧Env.get env' 8= .str ⟨#[]⟩∧Env.get env' 9= .bool false):=by
 refine pc_of fun res hr=>?_
 simp -implicitDefEqProofs [AS.get_push_at,AS.get_push_old,AS.push_len,AS.set_st_len,AS.next_st',AS.set_push_at,AS.get_set_self,AS.get_set_other,cr,Try.f37,hlen,hcx,f2,hσ,hro0] at hr
 subst hr
 refine ⟨_,rfl,by simp[hlen],by simp[Env.get_set,hlen,f2,hσ,hro0],fun i hi=>?_⟩
 simp only[List.mem_cons,List.not_mem_nil,or_false,not_or] at hi
 simp only[putE,get_set2,hi,false_and,if_false]
theorem rB (cx:Cx) (env:Env) (σ:AS) (hlen:env.length=141) (hcx:cx.esc= []):
  Pc Try.prog how cx [] 141 [10] (cr [.r, .l]) env σ (.normal) (σ) (fun env'=>Env.get env' 10= .int .i64 (-1)):=by
 refine pc_of fun res hr=>?_
 simp -implicitDefEqProofs [AS.get_push_at,AS.get_push_old,AS.push_len,AS.set_st_len,AS.next_st',AS.set_push_at,AS.get_set_self,AS.get_set_other,cr,Try.f37,hlen,hcx] at hr
 subst hr
 refine ⟨_,rfl,by simp[hlen],by simp[Env.get_set,hlen],fun i hi=>?_⟩
 simp only[List.mem_cons,List.not_mem_nil,or_false,not_or] at hi
 simp only[putE,get_set2,hi,false_and,if_false]
theorem r2 (cx:Cx) (env:Env) (σ:AS) (a:Nat) (me n st br bn fr nx:Int) (X A O:AV) (n0:Nat) (hlen:env.length=141) (hcx:cx.esc= []) (f0:Env.get env 0= .ptr (.hp a) 0) (hX1:X.one=true) (hA1:A.one=true) (hO1:O.one=true) (hA:σ.get (.hp a)=some (.cells [.int .i64 me, .int .i64 n, .int .i64 st, .int .u64 br, .int .i64 bn, .int .i64 fr,X,A,O, .int .i64 nx])) (hl:lenA Try.prog σ 40 O=some n0):
  Pc Try.prog how cx [] 141 [20,21,22,23,24,25] (cr [.r, .r, .l, .l]) env σ (.normal) (σ) (fun env'=>Env.get env' 23=O∧Env.get env' 24= .int .i64 (n0:Int)∧Env.get env' 25= .int .i64 0):=by
 refine pc_of fun res hr=>?_
 simp -implicitDefEqProofs [-lenA,AS.get_push_at,AS.get_push_old,AS.push_len,AS.set_st_len,AS.next_st',AS.set_push_at,AS.get_set_self,AS.get_set_other,cr,Try.f37,hlen,hcx,f0,hX1,hA1,hO1,hA,hl] at hr
 subst hr
 refine ⟨_,rfl,by simp[hlen],by simp[Env.get_set,hlen,f0,hX1,hA1,hO1,hA,hl],fun i hi=>?_⟩
 simp only[List.mem_cons,List.not_mem_nil,or_false,not_or] at hi
 simp only[putE,get_set2,hi,false_and,if_false]
theorem rE (cx:Cx) (env:Env) (σ:AS) (k:Nat) (X pp:AV) (x:Int) (v:ByteArray) (hlen:env.length=141) (hcx:cx.esc= []) (f23:Env.get env 23=X) (f25:Env.get env 25= .int .i64 (k:Int)) (hia:indexAddrA Try.prog σ 40 X (.int .i64 (k:Int))=some pp) (hpa:loadA Try.prog σ 47 pp=some (.agg [.int .i64 x, .str v])) (hw:wok cx.ro (.st σ.st.length)=true) (hh:cx.h≤σ.st.length):
  Pc Try.prog how cx [] 141 [11,12,27,28,29] (cr [.r, .r, .l, .r, .i, .i, .r, .r, .l, .i, .l]) env σ (.normal) (σ.push false (.cells [.int .i64 x, .str v])) (fun env'=>Env.get env' 11= .int .i64 (k:Int)∧Env.get env' 12= .ptr (.st σ.st.length) 0):=by
 refine pc_of fun res hr=>?_
 simp -implicitDefEqProofs [-indexAddrA,-loadA,AS.get_push_at,AS.get_push_old,AS.push_len,AS.set_st_len,AS.next_st',AS.set_push_at,AS.get_set_self,AS.get_set_other,cr,Try.f37,hlen,hcx,f23,f25,hia,hpa,hw,hh] at hr
 subst hr
 refine ⟨_,rfl,by simp[hlen],by simp[Env.get_set,hlen,f23,f25,hia,hpa,hw,hh],fun i hi=>?_⟩
 simp only[List.mem_cons,List.not_mem_nil,or_false,not_or] at hi
 simp only[putE,get_set2,hi,false_and,if_false]
theorem rF (cx:Cx) (env:Env) (σ:AS) (c:Nat) (x slot:Int) (v:ByteArray) (hlen:env.length=141) (hcx:cx.esc= []) (f3:Env.get env 3= .int .i64 slot) (f12:Env.get env 12= .ptr (.st c) 0) (gc:σ.get (.st c)=some (.cells [.int .i64 x, .str v])):
  Pc Try.prog how cx [] 141 [30,31,32,33] (cr [.r, .r, .l, .r, .i, .i, .r, .r, .l, .i, .r, .l]) env σ (.normal) (σ) (fun env'=>Env.get env' 33= .bool (decide (x=slot))):=by
 refine pc_of fun res hr=>?_
 simp -implicitDefEqProofs [AS.get_push_at,AS.get_push_old,AS.push_len,AS.set_st_len,AS.next_st',AS.set_push_at,AS.get_set_self,AS.get_set_other,cr,Try.f37,hlen,hcx,f3,f12,gc] at hr
 subst hr
 refine ⟨_,rfl,by simp[hlen],by simp[Env.get_set,hlen,f3,f12,gc],fun i hi=>?_⟩
 simp only[List.mem_cons,List.not_mem_nil,or_false,not_or] at hi
 simp only[putE,get_set2,hi,false_and,if_false]
theorem rG (cx:Cx) (env:Env) (σ:AS) (k:Int) (hlen:env.length=141) (hcx:cx.esc= []) (f11:Env.get env 11= .int .i64 k):
  Pc Try.prog how cx [] 141 [10,34] (cr [.r, .r, .l, .r, .i, .i, .r, .r, .l, .i, .r, .r, .l]) env σ (.normal) (σ) (fun env'=>Env.get env' 10= .int .i64 k):=by
 refine pc_of fun res hr=>?_
 simp -implicitDefEqProofs [AS.get_push_at,AS.get_push_old,AS.push_len,AS.set_st_len,AS.next_st',AS.set_push_at,AS.get_set_self,AS.get_set_other,cr,Try.f37,hlen,hcx,f11] at hr
 subst hr
 refine ⟨_,rfl,by simp[hlen],by simp[Env.get_set,hlen,f11],fun i hi=>?_⟩
 simp only[List.mem_cons,List.not_mem_nil,or_false,not_or] at hi
 simp only[putE,get_set2,hi,false_and,if_false]
theorem r8 (cx:Cx) (env:Env) (σ:AS) (a:Nat) (me n st br bn fr nx:Int) (X A O:AV) (rd rn k at_:Int) (i:Nat) (hp s:List AObj) (hlen:env.length=141) (hcx:cx.esc= []) (f0:Env.get env 0= .ptr (.hp a) 0) (f1:Env.get env 1= .int .i64 k) (f6:Env.get env 6= .ptr (.st i) 0) (f10:Env.get env 10= .int .i64 at_) (hX1:X.one=true) (hA1:A.one=true) (hO1:O.one=true) (hσ:σ=⟨hp,s⟩) (hA:(AS.mk hp s).get (.hp a)=some (.cells [.int .i64 me, .int .i64 n, .int .i64 st, .int .u64 br, .int .i64 bn, .int .i64 fr,X,A,O, .int .i64 nx])) (gi:(AS.mk hp s).get (.st i)=some (.cells [.int .u64 rd, .int .i64 rn])):
  Pc Try.prog how cx [] 141 [36,37,38,39,40,41,42,43,44,45,46,47,48,49,50,51,52,53,54,55,56,57,58,59,60,61,62,63,64] (cr [.r, .r, .r, .l, .l]) env σ (.normal) (AS.mk hp s) (fun env'=>Env.get env' 64= .bool (!(decide (st=2) && (decide (rd=br) && decide (rn=bn)) && (decide (0≤k) && decide (k<n)) && decide (0≤at_)))):=by
 by_cases q1:st=2 <;> by_cases q2:rd=br <;> by_cases q3:rn=bn <;> rcases (show (0≤k∧ ¬k<0)∨(¬0≤k∧k<0) by omega) with ⟨q4,q6⟩ | ⟨q4,q6⟩<;> rcases (show (k<n∧ ¬n≤k)∨(¬k<n∧n≤k) by omega) with ⟨q5,q7⟩ | ⟨q5,q7⟩<;> rcases (show (0≤at_∧ ¬at_<0)∨(¬0≤at_∧at_<0) by omega) with ⟨q8,q9⟩ | ⟨q8,q9⟩
 all_goals first | (fail; done) | (
   refine pc_of fun res hr=>?_
   simp -implicitDefEqProofs [-eqA,AS.get_push_at,AS.get_push_old,AS.push_len,AS.set_st_len,AS.next_st',AS.set_push_at,AS.get_set_self,AS.get_set_other,cr,Try.f37,hlen,hcx,f0,f1,f6,f10,hX1,hA1,hO1,hσ,hA,gi,q1,q2,q3,q4,q5,q6,q7,q8,q9,gd37,eqB37] at hr
   subst hr
   refine ⟨_,rfl,by simp[hlen],by simp[Env.get_set,hlen,f0,f1,f6,f10,hX1,hA1,hO1,hσ,hA,gi,q1,q2,q3,q4,q5,q6,q7,q8,q9,gd37,eqB37],fun i hi=>?_⟩
   simp only[List.mem_cons,List.not_mem_nil,or_false,not_or] at hi
   simp only[putE,get_set2,hi,false_and,if_false]
  )
theorem r9 (cx:Cx) (env:Env) (σ:AS) (hlen:env.length=141) (hcx:cx.esc= []):
  Pc Try.prog how cx [] 141 [8,9] (cr [.r, .r, .r, .l, .r, .l, .l]) env σ (.normal) (σ) (fun env'=>Env.get env' 8= .str ⟨#[]⟩∧Env.get env' 9= .bool false):=by
 refine pc_of fun res hr=>?_
 simp -implicitDefEqProofs [AS.get_push_at,AS.get_push_old,AS.push_len,AS.set_st_len,AS.next_st',AS.set_push_at,AS.get_set_self,AS.get_set_other,cr,Try.f37,hlen,hcx] at hr
 subst hr
 refine ⟨_,rfl,by simp[hlen],by simp[Env.get_set,hlen],fun i hi=>?_⟩
 simp only[List.mem_cons,List.not_mem_nil,or_false,not_or] at hi
 simp only[putE,get_set2,hi,false_and,if_false]
theorem r10 (cx:Cx) (env:Env) (σ:AS) (hlen:env.length=141) (hcx:cx.esc= []):
  Pc Try.prog how cx [] 141 [13] (cr [.r, .r, .r, .r, .l]) env σ (.normal) (σ) (fun env'=>Env.get env' 13= .int .i64 1):=by
 refine pc_of fun res hr=>?_
 simp -implicitDefEqProofs [AS.get_push_at,AS.get_push_old,AS.push_len,AS.set_st_len,AS.next_st',AS.set_push_at,AS.get_set_self,AS.get_set_other,cr,Try.f37,hlen,hcx] at hr
 subst hr
 refine ⟨_,rfl,by simp[hlen],by simp[Env.get_set,hlen],fun i hi=>?_⟩
 simp only[List.mem_cons,List.not_mem_nil,or_false,not_or] at hi
 simp only[putE,get_set2,hi,false_and,if_false]
theorem r11 (cx:Cx) (env:Env) (σ:AS) (a:Nat) (me n st br bn fr nx:Int) (X A O:AV) (n0:Nat) (hlen:env.length=141) (hcx:cx.esc= []) (f0:Env.get env 0= .ptr (.hp a) 0) (hX1:X.one=true) (hA1:A.one=true) (hO1:O.one=true) (hA:σ.get (.hp a)=some (.cells [.int .i64 me, .int .i64 n, .int .i64 st, .int .u64 br, .int .i64 bn, .int .i64 fr,X,A,O, .int .i64 nx])) (hl:lenA Try.prog σ 39 A=some n0):
  Pc Try.prog how cx [] 141 [65,66,67,68,69,70] (cr [.r, .r, .r, .r, .r, .l, .l]) env σ (.normal) (σ) (fun env'=>Env.get env' 68=A∧Env.get env' 69= .int .i64 (n0:Int)∧Env.get env' 70= .int .i64 0):=by
 refine pc_of fun res hr=>?_
 simp -implicitDefEqProofs [-lenA,AS.get_push_at,AS.get_push_old,AS.push_len,AS.set_st_len,AS.next_st',AS.set_push_at,AS.get_set_self,AS.get_set_other,cr,Try.f37,hlen,hcx,f0,hX1,hA1,hO1,hA,hl] at hr
 subst hr
 refine ⟨_,rfl,by simp[hlen],by simp[Env.get_set,hlen,f0,hX1,hA1,hO1,hA,hl],fun i hi=>?_⟩
 simp only[List.mem_cons,List.not_mem_nil,or_false,not_or] at hi
 simp only[putE,get_set2,hi,false_and,if_false]
theorem rH (cx:Cx) (env:Env) (σ:AS) (k:Nat) (X pp:AV) (x y:Int) (hlen:env.length=141) (hcx:cx.esc= []) (f68:Env.get env 68=X) (f70:Env.get env 70= .int .i64 (k:Int)) (hia:indexAddrA Try.prog σ 39 X (.int .i64 (k:Int))=some pp) (hpa:loadA Try.prog σ 120 pp=some (.agg [.int .i64 x, .int .i64 y])) (hw:wok cx.ro (.st σ.st.length)=true) (hh:cx.h≤σ.st.length):
  Pc Try.prog how cx [] 141 [15,72,73] (cr [.r, .r, .r, .r, .r, .l, .r, .i, .i, .r, .r, .l, .i, .l]) env σ (.normal) (σ.push false (.cells [.int .i64 x, .int .i64 y])) (fun env'=>Env.get env' 15= .ptr (.st σ.st.length) 0):=by
 refine pc_of fun res hr=>?_
 simp -implicitDefEqProofs [-indexAddrA,-loadA,AS.get_push_at,AS.get_push_old,AS.push_len,AS.set_st_len,AS.next_st',AS.set_push_at,AS.get_set_self,AS.get_set_other,cr,Try.f37,hlen,hcx,f68,f70,hia,hpa,hw,hh] at hr
 subst hr
 refine ⟨_,rfl,by simp[hlen],by simp[Env.get_set,hlen,f68,f70,hia,hpa,hw,hh],fun i hi=>?_⟩
 simp only[List.mem_cons,List.not_mem_nil,or_false,not_or] at hi
 simp only[putE,get_set2,hi,false_and,if_false]
theorem rI (cx:Cx) (env:Env) (σ:AS) (c:Nat) (x y slot node:Int) (hlen:env.length=141) (hcx:cx.esc= []) (f1:Env.get env 1= .int .i64 node) (f3:Env.get env 3= .int .i64 slot) (f15:Env.get env 15= .ptr (.st c) 0) (gc:σ.get (.st c)=some (.cells [.int .i64 x, .int .i64 y])):
  Pc Try.prog how cx [] 141 [74,75,76,77,78,79,80,81,82,83] (cr [.r, .r, .r, .r, .r, .l, .r, .i, .i, .r, .r, .l, .i, .r, .l, .l]) env σ (.normal) (σ) (fun env'=>Env.get env' 83= .bool (decide (y=slot) && decide (x=node))):=by
 by_cases q1:y=slot
 all_goals first | (fail; done) | (
   refine pc_of fun res hr=>?_
   simp -implicitDefEqProofs [AS.get_push_at,AS.get_push_old,AS.push_len,AS.set_st_len,AS.next_st',AS.set_push_at,AS.get_set_self,AS.get_set_other,cr,Try.f37,hlen,hcx,f1,f3,f15,gc,q1] at hr
   subst hr
   refine ⟨_,rfl,by simp[hlen],by simp[Env.get_set,hlen,f1,f3,f15,gc,q1],fun i hi=>?_⟩
   simp only[List.mem_cons,List.not_mem_nil,or_false,not_or] at hi
   simp only[putE,get_set2,hi,false_and,if_false]
  )
theorem rJ (cx:Cx) (env:Env) (σ:AS) (hlen:env.length=141) (hcx:cx.esc= []):
  Pc Try.prog how cx [] 141 [8,9] (cr [.r, .r, .r, .r, .r, .l, .r, .i, .i, .r, .r, .l, .i, .r, .l, .r, .l, .l]) env σ (.normal) (σ) (fun env'=>Env.get env' 8= .str ⟨#[]⟩∧Env.get env' 9= .bool false):=by
 refine pc_of fun res hr=>?_
 simp -implicitDefEqProofs [AS.get_push_at,AS.get_push_old,AS.push_len,AS.set_st_len,AS.next_st',AS.set_push_at,AS.get_set_self,AS.get_set_other,cr,Try.f37,hlen,hcx] at hr
 subst hr
 refine ⟨_,rfl,by simp[hlen],by simp[Env.get_set,hlen],fun i hi=>?_⟩
 simp only[List.mem_cons,List.not_mem_nil,or_false,not_or] at hi
 simp only[putE,get_set2,hi,false_and,if_false]
theorem rK (cx:Cx) (env:Env) (σ:AS) (c:Nat) (x y slot:Int) (hlen:env.length=141) (hcx:cx.esc= []) (f3:Env.get env 3= .int .i64 slot) (f15:Env.get env 15= .ptr (.st c) 0) (gc:σ.get (.st c)=some (.cells [.int .i64 x, .int .i64 y])):
  Pc Try.prog how cx [] 141 [84,85,86,87] (cr [.r, .r, .r, .r, .r, .l, .r, .i, .i, .r, .r, .l, .i, .r, .r, .l]) env σ (.normal) (σ) (fun env'=>Env.get env' 87= .bool (decide (y=slot))):=by
 refine pc_of fun res hr=>?_
 simp -implicitDefEqProofs [AS.get_push_at,AS.get_push_old,AS.push_len,AS.set_st_len,AS.next_st',AS.set_push_at,AS.get_set_self,AS.get_set_other,cr,Try.f37,hlen,hcx,f3,f15,gc] at hr
 subst hr
 refine ⟨_,rfl,by simp[hlen],by simp[Env.get_set,hlen,f3,f15,gc],fun i hi=>?_⟩
 simp only[List.mem_cons,List.not_mem_nil,or_false,not_or] at hi
 simp only[putE,get_set2,hi,false_and,if_false]
theorem rL (cx:Cx) (env:Env) (σ:AS) (x:Int) (hlen:env.length=141) (hcx:cx.esc= []) (f13:Env.get env 13= .int .i64 x) (hw:wr .i64 (x+1)=x+1):
  Pc Try.prog how cx [] 141 [13,88,89] (cr [.r, .r, .r, .r, .r, .l, .r, .i, .i, .r, .r, .l, .i, .r, .r, .r, .l]) env σ (.normal) (σ) (fun env'=>Env.get env' 13= .int .i64 (x+1)):=by
 refine pc_of fun res hr=>?_
 simp -implicitDefEqProofs [AS.get_push_at,AS.get_push_old,AS.push_len,AS.set_st_len,AS.next_st',AS.set_push_at,AS.get_set_self,AS.get_set_other,cr,Try.f37,hlen,hcx,f13,hw] at hr
 subst hr
 refine ⟨_,rfl,by simp[hlen],by simp[Env.get_set,hlen,f13,hw],fun i hi=>?_⟩
 simp only[List.mem_cons,List.not_mem_nil,or_false,not_or] at hi
 simp only[putE,get_set2,hi,false_and,if_false]
theorem r19 (cx:Cx) (env:Env) (σ:AS) (a:Nat) (me n st br bn fr nx:Int) (X A O:AV) (k slot:Int) (R:AV) (hp1 st1 hp2 st2:List AObj) (hp s:List AObj) (hlen:env.length=141) (hcx:cx.esc= []) (f0:Env.get env 0= .ptr (.hp a) 0) (f1:Env.get env 1= .int .i64 k) (f3:Env.get env 3= .int .i64 slot) (hX1:X.one=true) (hA1:A.one=true) (hO1:O.one=true) (hσ:σ=⟨hp,s⟩) (hA: ∀s,(AS.mk hp s).get (.hp a)=some (.cells [.int .i64 me, .int .i64 n, .int .i64 st, .int .u64 br, .int .i64 bn, .int .i64 fr,X,A,O, .int .i64 nx])) (hz: ∀σ,fzL cx.ro σ [.int .i64 k, .int .i64 slot]=some ([.int .i64 k, .int .i64 slot],σ)) (hap:appendA Try.prog cx ⟨hp,s++ [.row [.agg [.int .i64 k, .int .i64 slot]] 2 0 false]⟩ [39,39] A (.row (.st s.length) 0 0 1)=some (R,⟨hp1,st1⟩)) (hst:storeA Try.prog cx ⟨hp1,st1⟩ 39 (.ptr (.hp a) 7) R=some ⟨hp2,st2⟩):
  Pc Try.prog how cx [] 141 [91,92,93,94,95,96,97,98,99,100,101,102] (cr [.r, .r, .r, .r, .r, .r, .l]) env σ (.normal) (AS.mk hp2 st2) (fun _=>True):=by
 refine pc_of fun res hr=>?_
 simp -implicitDefEqProofs [-fzL,-storeA,AS.get_push_at,AS.get_push_old,AS.push_len,AS.set_st_len,AS.next_st',AS.set_push_at,AS.get_set_self,AS.get_set_other,cr,Try.f37,hlen,hcx,f0,f1,f3,hX1,hA1,hO1,hσ,hA,hz,hap,hst,elemA] at hr
 subst hr
 refine ⟨_,rfl,by simp[hlen],by simp[Env.get_set,hlen,f0,f1,f3,hX1,hA1,hO1,hσ,hA,hz,hap,hst,elemA],fun i hi=>?_⟩
 simp only[List.mem_cons,List.not_mem_nil,or_false,not_or] at hi
 simp only[putE,get_set2,hi,false_and,if_false]
theorem r20 (cx:Cx) (env:Env) (σ:AS) (a:Nat) (me n st br bn fr nx:Int) (X A O:AV) (x:Int) (hlen:env.length=141) (hcx:cx.esc= []) (f0:Env.get env 0= .ptr (.hp a) 0) (f13:Env.get env 13= .int .i64 x) (hX1:X.one=true) (hA1:A.one=true) (hO1:O.one=true) (hA:σ.get (.hp a)=some (.cells [.int .i64 me, .int .i64 n, .int .i64 st, .int .u64 br, .int .i64 bn, .int .i64 fr,X,A,O, .int .i64 nx])) (hw:wr .i64 (2*x)=2*x):
  Pc Try.prog how cx [] 141 [103,104,105,106,107,108,109] (cr [.r, .r, .r, .r, .r, .r, .r, .l, .l]) env σ (.normal) (σ) (fun env'=>Env.get env' 109= .bool (decide (2*x≤n))):=by
 refine pc_of fun res hr=>?_
 simp -implicitDefEqProofs [AS.get_push_at,AS.get_push_old,AS.push_len,AS.set_st_len,AS.next_st',AS.set_push_at,AS.get_set_self,AS.get_set_other,cr,Try.f37,hlen,hcx,f0,f13,hX1,hA1,hO1,hA,hw] at hr
 subst hr
 refine ⟨_,rfl,by simp[hlen],by simp[Env.get_set,hlen,f0,f13,hX1,hA1,hO1,hA,hw],fun i hi=>?_⟩
 simp only[List.mem_cons,List.not_mem_nil,or_false,not_or] at hi
 simp only[putE,get_set2,hi,false_and,if_false]
theorem r21 (cx:Cx) (env:Env) (σ:AS) (hlen:env.length=141) (hcx:cx.esc= []):
  Pc Try.prog how cx [] 141 [8,9] (cr [.r, .r, .r, .r, .r, .r, .r, .l, .r, .l, .l]) env σ (.normal) (σ) (fun env'=>Env.get env' 8= .str ⟨#[]⟩∧Env.get env' 9= .bool false):=by
 refine pc_of fun res hr=>?_
 simp -implicitDefEqProofs [AS.get_push_at,AS.get_push_old,AS.push_len,AS.set_st_len,AS.next_st',AS.set_push_at,AS.get_set_self,AS.get_set_other,cr,Try.f37,hlen,hcx] at hr
 subst hr
 refine ⟨_,rfl,by simp[hlen],by simp[Env.get_set,hlen],fun i hi=>?_⟩
 simp only[List.mem_cons,List.not_mem_nil,or_false,not_or] at hi
 simp only[putE,get_set2,hi,false_and,if_false]
theorem r23 (cx:Cx) (env:Env) (σ:AS) (hlen:env.length=141) (hcx:cx.esc= []):
  Pc Try.prog how cx [] 141 [17] (cr [.r, .r, .r, .r, .r, .r, .r, .r, .r, .l]) env σ (.normal) (σ) (fun env'=>Env.get env' 17= .nils):=by
 refine pc_of fun res hr=>?_
 simp -implicitDefEqProofs [AS.get_push_at,AS.get_push_old,AS.push_len,AS.set_st_len,AS.next_st',AS.set_push_at,AS.get_set_self,AS.get_set_other,cr,Try.f37,hlen,hcx] at hr
 subst hr
 refine ⟨_,rfl,by simp[hlen],by simp[Env.get_set,hlen],fun i hi=>?_⟩
 simp only[List.mem_cons,List.not_mem_nil,or_false,not_or] at hi
 simp only[putE,get_set2,hi,false_and,if_false]
theorem r24 (cx:Cx) (env:Env) (σ:AS) (a:Nat) (me n st br bn fr nx:Int) (X A O:AV) (n0:Nat) (hlen:env.length=141) (hcx:cx.esc= []) (f0:Env.get env 0= .ptr (.hp a) 0) (hX1:X.one=true) (hA1:A.one=true) (hO1:O.one=true) (hA:σ.get (.hp a)=some (.cells [.int .i64 me, .int .i64 n, .int .i64 st, .int .u64 br, .int .i64 bn, .int .i64 fr,X,A,O, .int .i64 nx])) (hl:lenA Try.prog σ 40 O=some n0):
  Pc Try.prog how cx [] 141 [118,119,120,121,122,123] (cr [.r, .r, .r, .r, .r, .r, .r, .r, .r, .r, .l, .l]) env σ (.normal) (σ) (fun env'=>Env.get env' 121=O∧Env.get env' 122= .int .i64 (n0:Int)∧Env.get env' 123= .int .i64 0):=by
 refine pc_of fun res hr=>?_
 simp -implicitDefEqProofs [-lenA,AS.get_push_at,AS.get_push_old,AS.push_len,AS.set_st_len,AS.next_st',AS.set_push_at,AS.get_set_self,AS.get_set_other,cr,Try.f37,hlen,hcx,f0,hX1,hA1,hO1,hA,hl] at hr
 subst hr
 refine ⟨_,rfl,by simp[hlen],by simp[Env.get_set,hlen,f0,hX1,hA1,hO1,hA,hl],fun i hi=>?_⟩
 simp only[List.mem_cons,List.not_mem_nil,or_false,not_or] at hi
 simp only[putE,get_set2,hi,false_and,if_false]
theorem rM (cx:Cx) (env:Env) (σ:AS) (k:Nat) (X pp:AV) (x:Int) (v:ByteArray) (hlen:env.length=141) (hcx:cx.esc= []) (f121:Env.get env 121=X) (f123:Env.get env 123= .int .i64 (k:Int)) (hia:indexAddrA Try.prog σ 40 X (.int .i64 (k:Int))=some pp) (hpa:loadA Try.prog σ 47 pp=some (.agg [.int .i64 x, .str v])) (hw:wok cx.ro (.st σ.st.length)=true) (hh:cx.h≤σ.st.length):
  Pc Try.prog how cx [] 141 [18,19,125,126,127] (cr [.r, .r, .r, .r, .r, .r, .r, .r, .r, .r, .l, .r, .i, .i, .r, .r, .l, .i, .l]) env σ (.normal) (σ.push false (.cells [.int .i64 x, .str v])) (fun env'=>Env.get env' 18= .int .i64 (k:Int)∧Env.get env' 19= .ptr (.st σ.st.length) 0):=by
 refine pc_of fun res hr=>?_
 simp -implicitDefEqProofs [-indexAddrA,-loadA,AS.get_push_at,AS.get_push_old,AS.push_len,AS.set_st_len,AS.next_st',AS.set_push_at,AS.get_set_self,AS.get_set_other,cr,Try.f37,hlen,hcx,f121,f123,hia,hpa,hw,hh] at hr
 subst hr
 refine ⟨_,rfl,by simp[hlen],by simp[Env.get_set,hlen,f121,f123,hia,hpa,hw,hh],fun i hi=>?_⟩
 simp only[List.mem_cons,List.not_mem_nil,or_false,not_or] at hi
 simp only[putE,get_set2,hi,false_and,if_false]
theorem rN (cx:Cx) (env:Env) (σ:AS) (k j:Int) (hlen:env.length=141) (hcx:cx.esc= []) (f10:Env.get env 10= .int .i64 j) (f18:Env.get env 18= .int .i64 k):
  Pc Try.prog how cx [] 141 [128,129,130] (cr [.r, .r, .r, .r, .r, .r, .r, .r, .r, .r, .l, .r, .i, .i, .r, .r, .l, .i, .r, .l]) env σ (.normal) (σ) (fun env'=>Env.get env' 130= .bool (!decide (k=j))):=by
 refine pc_of fun res hr=>?_
 simp -implicitDefEqProofs [AS.get_push_at,AS.get_push_old,AS.push_len,AS.set_st_len,AS.next_st',AS.set_push_at,AS.get_set_self,AS.get_set_other,cr,Try.f37,hlen,hcx,f10,f18] at hr
 subst hr
 refine ⟨_,rfl,by simp[hlen],by simp[Env.get_set,hlen,f10,f18],fun i hi=>?_⟩
 simp only[List.mem_cons,List.not_mem_nil,or_false,not_or] at hi
 simp only[putE,get_set2,hi,false_and,if_false]
theorem rO (cx:Cx) (env:Env) (σ:AS) (c:Nat) (x:Int) (v:ByteArray) (R R':AV) (σ':AS) (hlen:env.length=141) (hcx:cx.esc= []) (f17:Env.get env 17=R) (f19:Env.get env 19= .ptr (.st c) 0) (gc:σ.get (.st c)=some (.cells [.int .i64 x, .str v])) (hz: ∀σ,fzL cx.ro σ [.int .i64 x, .str v]=some ([.int .i64 x, .str v],σ)) (hap:appendA Try.prog cx (σ.push false (.row [.agg [.int .i64 x, .str v]] 2 0 false)) [40,40] R (.row (.st σ.st.length) 0 0 1)=some (R',σ')):
  Pc Try.prog how cx [] 141 [17,131,132,133,134] (cr [.r, .r, .r, .r, .r, .r, .r, .r, .r, .r, .l, .r, .i, .i, .r, .r, .l, .i, .r, .r, .l]) env σ (.normal) (σ') (fun env'=>Env.get env' 17=R'):=by
 refine pc_of fun res hr=>?_
 simp -implicitDefEqProofs [-fzL,AS.get_push_at,AS.get_push_old,AS.push_len,AS.set_st_len,AS.next_st',AS.set_push_at,AS.get_set_self,AS.get_set_other,cr,Try.f37,hlen,hcx,f17,f19,gc,hz,hap,elemA] at hr
 subst hr
 refine ⟨_,rfl,by simp[hlen],by simp[Env.get_set,hlen,f17,f19,gc,hz,hap,elemA],fun i hi=>?_⟩
 simp only[List.mem_cons,List.not_mem_nil,or_false,not_or] at hi
 simp only[putE,get_set2,hi,false_and,if_false]
theorem r30 (cx:Cx) (env:Env) (σ:AS) (a:Nat) (R:AV) (hp2 st2 hp s:List AObj) (hlen:env.length=141) (hcx:cx.esc= []) (f0:Env.get env 0= .ptr (.hp a) 0) (f17:Env.get env 17=R) (hσ:σ=⟨hp,s⟩) (hR1:R.one=true) (hst:storeA Try.prog cx ⟨hp,s⟩ 40 (.ptr (.hp a) 8) R=some ⟨hp2,st2⟩):
  Pc Try.prog how cx [] 141 [136,137,138,139] (cr [.r, .r, .r, .r, .r, .r, .r, .r, .r, .r, .r, .l]) env σ (.normal) (AS.mk hp2 st2) (fun _=>True):=by
 refine pc_of fun res hr=>?_
 simp -implicitDefEqProofs [-storeA,AS.get_push_at,AS.get_push_old,AS.push_len,AS.set_st_len,AS.next_st',AS.set_push_at,AS.get_set_self,AS.get_set_other,cr,Try.f37,hlen,hcx,f0,f17,hσ,hR1,hst] at hr
 subst hr
 refine ⟨_,rfl,by simp[hlen],by simp[Env.get_set,hlen,f0,f17,hσ,hR1,hst],fun i hi=>?_⟩
 simp only[List.mem_cons,List.not_mem_nil,or_false,not_or] at hi
 simp only[putE,get_set2,hi,false_and,if_false]
theorem r31 (cx:Cx) (env:Env) (σ:AS) (v:ByteArray) (hlen:env.length=141) (hcx:cx.esc= []) (f16:Env.get env 16= .str v):
  Pc Try.prog how cx [] 141 [8,9,140] (cr [.r, .r, .r, .r, .r, .r, .r, .r, .r, .r, .r, .r, .l]) env σ (.normal) (σ) (fun env'=>Env.get env' 8= .str v∧Env.get env' 9= .bool true):=by
 refine pc_of fun res hr=>?_
 simp -implicitDefEqProofs [AS.get_push_at,AS.get_push_old,AS.push_len,AS.set_st_len,AS.next_st',AS.set_push_at,AS.get_set_self,AS.get_set_other,cr,Try.f37,hlen,hcx,f16] at hr
 subst hr
 refine ⟨_,rfl,by simp[hlen],by simp[Env.get_set,hlen,f16],fun i hi=>?_⟩
 simp only[List.mem_cons,List.not_mem_nil,or_false,not_or] at hi
 simp only[putE,get_set2,hi,false_and,if_false]
theorem r22 (cx:Cx) (env:Env) (σ:AS) (a:Nat) (me n st br bn fr nx:Int) (X A O:AV) (jr w j:Nat) (l:List AV) (x:Int) (v:ByteArray) (hlen:env.length=141) (hcx:cx.esc= []) (f0:Env.get env 0= .ptr (.hp a) 0) (f10:Env.get env 10= .int .i64 (j:Int)) (hX1:X.one=true) (hA1:A.one=true) (hO:O= .row (.hp jr) w 0 l.length) (hA:σ.get (.hp a)=some (.cells [.int .i64 me, .int .i64 n, .int .i64 st, .int .u64 br, .int .i64 bn, .int .i64 fr,X,A,O, .int .i64 nx])) (hg:σ.get (.hp jr)=some (.row l 2 w false)) (hj:j<l.length) (hl:l[j]= .agg [.int .i64 x, .str v]):
  Pc Try.prog how cx [] 141 [16,110,111,112,113,114,115,116,117] (cr [.r, .r, .r, .r, .r, .r, .r, .r, .l]) env σ (.normal) (σ) (fun env'=>Env.get env' 16= .str v):=by
 refine pc_of fun res hr=>?_
 simp -implicitDefEqProofs [AS.get_push_at,AS.get_push_old,AS.push_len,AS.set_st_len,AS.next_st',AS.set_push_at,AS.get_set_self,AS.get_set_other,cr,Try.f37,hlen,hcx,f0,f10,hX1,hA1,hO,hA,hg,hj,hl,Int.natCast_nonneg] at hr
 subst hr
 refine ⟨_,rfl,by simp[hlen],by simp[Env.get_set,hlen,f0,f10,hX1,hA1,hO,hA,hg,hj,hl,Int.natCast_nonneg],fun i hi=>?_⟩
 simp only[List.mem_cons,List.not_mem_nil,or_false,not_or] at hi
 simp only[putE,get_set2,hi,false_and,if_false]
end
noncomputable def bodyC:Code:=(.seq (cr [.l]) (.seq (cr [.r, .l]) (.seq (.seq (cr [.r, .r, .l, .l]) (cr [.r, .r, .l, .r])) (.seq (.seq (cr [.r, .r, .r, .l, .l]) (.cond (.tmp 64) (.seq (cr [.r, .r, .r, .l, .r, .l, .l]) .ret) .skip)) (.seq (cr [.r, .r, .r, .r, .l]) (.seq (.seq (cr [.r, .r, .r, .r, .r, .l, .l]) (cr [.r, .r, .r, .r, .r, .l, .r])) (.seq (cr [.r, .r, .r, .r, .r, .r, .l]) (.seq (.seq (cr [.r, .r, .r, .r, .r, .r, .r, .l, .l]) (.cond (.tmp 109) (.seq (cr [.r, .r, .r, .r, .r, .r, .r, .l, .r, .l, .l]) .ret) .skip)) (.seq (cr [.r, .r, .r, .r, .r, .r, .r, .r, .l]) (.seq (cr [.r, .r, .r, .r, .r, .r, .r, .r, .r, .l]) (.seq (.seq (cr [.r, .r, .r, .r, .r, .r, .r, .r, .r, .r, .l, .l]) (cr [.r, .r, .r, .r, .r, .r, .r, .r, .r, .r, .l, .r])) (.seq (cr [.r, .r, .r, .r, .r, .r, .r, .r, .r, .r, .r, .l]) (.seq (cr [.r, .r, .r, .r, .r, .r, .r, .r, .r, .r, .r, .r, .l]) .ret)))))))))))))
theorem body:Try.f37.body=some bodyC:=by kernel_rfl
def Ja (h:Nat) (σ0:AS) (a i6:Nat) (node slot rd rn:Int) (X:AV) (op:List (Int×ByteArray)) (k:Nat) (env:Env) (σ:AS):Prop:=
 Env.get env 0= .ptr (.hp a) 0∧Env.get env 1= .int .i64 node∧Env.get env 3= .int .i64 slot∧Env.get env 6= .ptr (.st i6) 0∧Env.get env 10= .int .i64 (atF slot op k)∧Env.get env 23=X∧(σ.get (.st i6)=some (.cells [.int .u64 rd, .int .i64 rn]))∧Outside h σ0 σ
def Exa (h:Nat) (σ0:AS) (a i6:Nat) (node slot rd rn:Int) (X:AV) (op:List (Int×ByteArray)) (e:AExit) (env:Env) (σ:AS):Prop:=False
theorem Ja_stable {h:Nat} {σ0:AS} {a i6:Nat} {node slot rd rn:Int} {X:AV} {op:List (Int×ByteArray)}: ∀k env env' σ,env.length=141→env'.length=141→(∀i,i≠26→i≠35→i≠25→Env.get env' i=Env.get env i)→Ja h σ0 a i6 node slot rd rn X op k env σ→Ja h σ0 a i6 node slot rd rn X op k env' σ:=by
 rintro k env env' σ _ _ hf ⟨j0,j1,j3,j6,j10,j23,q0,ho⟩
 exact ⟨(hf 0 (by decide) (by decide) (by decide)).trans j0,(hf 1 (by decide) (by decide) (by decide)).trans j1,(hf 3 (by decide) (by decide) (by decide)).trans j3,(hf 6 (by decide) (by decide) (by decide)).trans j6,(hf 10 (by decide) (by decide) (by decide)).trans j10,(hf 23 (by decide) (by decide) (by decide)).trans j23,q0,ho⟩
noncomputable def oTa:Oper:=(opsOf (cr [.r, .r, .l, .r, .i, .i, .l])).headD default
noncomputable def oIa:List Oper:=opsOf (cr [.r, .r, .l, .r, .i, .i, .r, .r, .r])
theorem loop_eqa:(cr [.r, .r, .l, .r])= .block 0 (.loop (.seq (.region 3 #[oTa] false) (.seq (.cond (.tmp 26) .skip (.exit 0)) (.seq (.block 1 (.seq (cr [.r, .r, .l, .r, .i, .i, .r, .r, .l, .i, .l]) (.seq (cr [.r, .r, .l, .r, .i, .i, .r, .r, .l, .i, .r, .l]) (.cond (.tmp 33) (cr [.r, .r, .l, .r, .i, .i, .r, .r, .l, .i, .r, .r, .l]) .skip)))) (.region 7 #[oIa.headD default,(oIa.drop 1).headD default] false))))):=by kernel_rfl
theorem stepa (cx:Cx) (hcx:cx.esc= []) (hro: ∀k,cx.ro=some k→k≤cx.h) (σ0:AS) (a i6:Nat) (node slot rd rn:Int) (X:AV) (op:List (Int×ByteArray)) (hX: ∀st,Rd Try.prog ⟨σ0.hp,st⟩ 40 47 X (op.map encRw)):
  ∀k env σ,k<op.length→env.length=141→Env.get env 25= .int .i64 (k:Int)→Env.get env 24= .int .i64 ((op.length:Nat):Int)→Ja cx.h σ0 a i6 node slot rd rn X op k env σ→ ∃e env' σ',execW Try.prog cx [] (callW Try.prog how) (.block 1 (.seq (cr [.r, .r, .l, .r, .i, .i, .r, .r, .l, .i, .l]) (.seq (cr [.r, .r, .l, .r, .i, .i, .r, .r, .l, .i, .r, .l]) (.cond (.tmp 33) (cr [.r, .r, .l, .r, .i, .i, .r, .r, .l, .i, .r, .r, .l]) .skip)))) (env,σ)=some (e,(env',σ'))∧
   ((e= .normal∧env'.length=141∧Env.get env' 25= .int .i64 (k:Int)∧Env.get env' 24= .int .i64 ((op.length:Nat):Int)∧Ja cx.h σ0 a i6 node slot rd rn X op (k+1) env' σ')∨(e≠ .normal∧Exa cx.h σ0 a i6 node slot rd rn X op e env' σ')):=by
 rintro k env σ hk hlen f25 f24 ⟨f0,f1,f3,f6,f10,f23,q0,ho⟩
 have hXσ:Rd Try.prog σ 40 47 X (op.map encRw):=by have:=hX σ.st; rw[←ho.1] at this; exact this
 obtain ⟨pp,hia,hpa⟩:=hXσ.2 k (encRw op[k]) (get_el hk)
 obtain ⟨env1,x1a,x1b,x1c,x1d⟩:=rE cx env σ k _ pp (op[k].1) (op[k].2) hlen hcx f23 f25 hia hpa (wokst hro ho.2.2) ho.2.2
 have f0:=(x1d 0 (by decide)).trans f0
 have f1:=(x1d 1 (by decide)).trans f1
 have f3:=(x1d 3 (by decide)).trans f3
 have f6:=(x1d 6 (by decide)).trans f6
 have f10:=(x1d 10 (by decide)).trans f10
 have f23:=(x1d 23 (by decide)).trans f23
 have f24:=(x1d 24 (by decide)).trans f24
 have f25:=(x1d 25 (by decide)).trans f25
 have f11:=x1c.1
 have f12:=x1c.2
 have g1:((σ:AS).push false (.cells [.int .i64 op[k].1, .str op[k].2])).get (.st (σ:AS).st.length)=some (.cells [.int .i64 op[k].1, .str op[k].2]):=AS.get_push_at rfl
 have q0:=get_push' (ob':= .cells [.int .i64 op[k].1, .str op[k].2]) q0
 have ho:=ho.push (ob:= .cells [.int .i64 op[k].1, .str op[k].2])
 generalize hib1:(σ:AS).st.length=ib1 at g1 f12
 generalize (σ:AS).push false (.cells [.int .i64 op[k].1, .str op[k].2])=σ1 at x1a g1 q0 ho
 obtain ⟨env2,x2a,x2b,x2c,x2d⟩:=rF cx env1 σ1 _ _ slot _ x1b hcx f3 f12 g1
 have f0:=(x2d 0 (by decide)).trans f0
 have f1:=(x2d 1 (by decide)).trans f1
 have f3:=(x2d 3 (by decide)).trans f3
 have f6:=(x2d 6 (by decide)).trans f6
 have f10:=(x2d 10 (by decide)).trans f10
 have f11:=(x2d 11 (by decide)).trans f11
 have f12:=(x2d 12 (by decide)).trans f12
 have f23:=(x2d 23 (by decide)).trans f23
 have f24:=(x2d 24 (by decide)).trans f24
 have f25:=(x2d 25 (by decide)).trans f25
 have f33:=x2c
 have ev1:=ev_tmp f33
 have hg:op.getD k (0,⟨#[]⟩)=op[k]:=by rw[List.getD_eq_getElem?_getD,List.getElem?_eq_getElem hk]; rfl
 by_cases q:op[k].1=slot
 case pos=>
  rw[decide_eq_true q] at ev1
  obtain ⟨env3,x3a,x3b,x3c,x3d⟩:=rG cx env2 σ1 _ x2b hcx f11
  have f0:=(x3d 0 (by decide)).trans f0
  have f1:=(x3d 1 (by decide)).trans f1
  have f3:=(x3d 3 (by decide)).trans f3
  have f6:=(x3d 6 (by decide)).trans f6
  have f11:=(x3d 11 (by decide)).trans f11
  have f12:=(x3d 12 (by decide)).trans f12
  have f23:=(x3d 23 (by decide)).trans f23
  have f24:=(x3d 24 (by decide)).trans f24
  have f25:=(x3d 25 (by decide)).trans f25
  have f33:=(x3d 33 (by decide)).trans f33
  have f10:=x3c
  exact ⟨.normal,env3,_,(execW_block_of (execW_seq_of x1a (execW_seq_of x2a (execW_cond_t ev1 x3a)))), .inl ⟨rfl,x3b,f25,f24,f0,f1,f3,f6,(by rw[f10,atF,hg,if_pos q]),f23,q0,ho⟩⟩
 rw[decide_eq_false q] at ev1
 exact ⟨.normal,env2,_,(execW_block_of (execW_seq_of x1a (execW_seq_of x2a (execW_cond_f ev1 (by rfl))))), .inl ⟨rfl,x2b,f25,f24,f0,f1,f3,f6,(by rw[f10,atF,hg,if_neg q]),f23,q0,ho⟩⟩
theorem loopa (cx:Cx) (hcx:cx.esc= []) (hro: ∀k,cx.ro=some k→k≤cx.h) (σ0:AS) (a i6:Nat) (node slot rd rn:Int) (X:AV) (op:List (Int×ByteArray)) (hX: ∀st,Rd Try.prog ⟨σ0.hp,st⟩ 40 47 X (op.map encRw)) (hnn:op.length≤9223372036854775807) {env:Env} {σ:AS} (hl:env.length=141) (h1:Env.get env 25= .int .i64 0) (h2:Env.get env 24= .int .i64 ((op.length:Nat):Int)) (h0:Ja cx.h σ0 a i6 node slot rd rn X op 0 env σ):
  ∃e env' σ',execW Try.prog cx [] (callW Try.prog how) (cr [.r, .r, .l, .r]) (env,σ)=some (e,(env',σ'))∧((e= .normal∧((env'.length=141∧Ja cx.h σ0 a i6 node slot rd rn X op (op.length) env' σ')∨Exa cx.h σ0 a i6 node slot rd rn X op (.exit 0) env' σ'))∨(e≠ .normal∧e≠ .exit 0∧Exa cx.h σ0 a i6 node slot rd rn X op e env' σ')):=by
 rw[loop_eqa]
 exact range_std (Ex:=Exa cx.h σ0 a i6 node slot rd rn X op) (N:=141) (tc:=26) (ti:=25) (tl:=24) (tx:=35) (ty1:=3) (ty2:=3) (ty3:=3) (ty4:=3) ⟨by kernel_rfl,by kernel_rfl,by kernel_rfl⟩ ⟨by kernel_rfl,by kernel_rfl,by kernel_rfl⟩ ⟨by kernel_rfl,by kernel_rfl,by kernel_rfl⟩ (by decide) hnn Ja_stable (stepa cx hcx hro σ0 a i6 node slot rd rn X op hX) hl h1 h2 h0
def Jb (h:Nat) (σ0:AS) (a:Nat) (node slot at_:Int) (X:AV) (ack:List (Int×Int)) (k:Nat) (env:Env) (σ:AS):Prop:=
 Env.get env 0= .ptr (.hp a) 0∧Env.get env 1= .int .i64 node∧Env.get env 3= .int .i64 slot∧Env.get env 10= .int .i64 at_∧Env.get env 13= .int .i64 (1+((cntA slot (ack.take k):Nat):Int))∧Env.get env 68=X∧(dupA node slot (ack.take k)=false)∧Outside h σ0 σ
def Exb (h:Nat) (σ0:AS) (a:Nat) (node slot at_:Int) (X:AV) (ack:List (Int×Int)) (e:AExit) (env:Env) (σ:AS):Prop:=e= .ret∧env.length=141∧Env.get env 8= .str ⟨#[]⟩∧Env.get env 9= .bool false∧Outside h σ0 σ∧dupA node slot ack=true
theorem Jb_stable {h:Nat} {σ0:AS} {a:Nat} {node slot at_:Int} {X:AV} {ack:List (Int×Int)}: ∀k env env' σ,env.length=141→env'.length=141→(∀i,i≠71→i≠90→i≠70→Env.get env' i=Env.get env i)→Jb h σ0 a node slot at_ X ack k env σ→Jb h σ0 a node slot at_ X ack k env' σ:=by
 rintro k env env' σ _ _ hf ⟨j0,j1,j3,j10,j13,j68,q0,ho⟩
 exact ⟨(hf 0 (by decide) (by decide) (by decide)).trans j0,(hf 1 (by decide) (by decide) (by decide)).trans j1,(hf 3 (by decide) (by decide) (by decide)).trans j3,(hf 10 (by decide) (by decide) (by decide)).trans j10,(hf 13 (by decide) (by decide) (by decide)).trans j13,(hf 68 (by decide) (by decide) (by decide)).trans j68,q0,ho⟩
noncomputable def oTb:Oper:=(opsOf (cr [.r, .r, .r, .r, .r, .l, .r, .i, .i, .l])).headD default
noncomputable def oIb:List Oper:=opsOf (cr [.r, .r, .r, .r, .r, .l, .r, .i, .i, .r, .r, .r])
theorem loop_eqb:(cr [.r, .r, .r, .r, .r, .l, .r])= .block 2 (.loop (.seq (.region 12 #[oTb] false) (.seq (.cond (.tmp 71) .skip (.exit 2)) (.seq (.block 3 (.seq (cr [.r, .r, .r, .r, .r, .l, .r, .i, .i, .r, .r, .l, .i, .l]) (.seq (.seq (cr [.r, .r, .r, .r, .r, .l, .r, .i, .i, .r, .r, .l, .i, .r, .l, .l]) (.cond (.tmp 83) (.seq (cr [.r, .r, .r, .r, .r, .l, .r, .i, .i, .r, .r, .l, .i, .r, .l, .r, .l, .l]) .ret) .skip)) (.seq (cr [.r, .r, .r, .r, .r, .l, .r, .i, .i, .r, .r, .l, .i, .r, .r, .l]) (.cond (.tmp 87) (cr [.r, .r, .r, .r, .r, .l, .r, .i, .i, .r, .r, .l, .i, .r, .r, .r, .l]) .skip))))) (.region 18 #[oIb.headD default,(oIb.drop 1).headD default] false))))):=by kernel_rfl
theorem stepb (cx:Cx) (hcx:cx.esc= []) (hro: ∀k,cx.ro=some k→k≤cx.h) (σ0:AS) (a:Nat) (node slot at_:Int) (X:AV) (ack:List (Int×Int)) (hX: ∀st,Rd Try.prog ⟨σ0.hp,st⟩ 39 120 X (ack.map encAk)) (hal:ack.length≤1000):
  ∀k env σ,k<ack.length→env.length=141→Env.get env 70= .int .i64 (k:Int)→Env.get env 69= .int .i64 ((ack.length:Nat):Int)→Jb cx.h σ0 a node slot at_ X ack k env σ→ ∃e env' σ',execW Try.prog cx [] (callW Try.prog how) (.block 3 (.seq (cr [.r, .r, .r, .r, .r, .l, .r, .i, .i, .r, .r, .l, .i, .l]) (.seq (.seq (cr [.r, .r, .r, .r, .r, .l, .r, .i, .i, .r, .r, .l, .i, .r, .l, .l]) (.cond (.tmp 83) (.seq (cr [.r, .r, .r, .r, .r, .l, .r, .i, .i, .r, .r, .l, .i, .r, .l, .r, .l, .l]) .ret) .skip)) (.seq (cr [.r, .r, .r, .r, .r, .l, .r, .i, .i, .r, .r, .l, .i, .r, .r, .l]) (.cond (.tmp 87) (cr [.r, .r, .r, .r, .r, .l, .r, .i, .i, .r, .r, .l, .i, .r, .r, .r, .l]) .skip))))) (env,σ)=some (e,(env',σ'))∧
   ((e= .normal∧env'.length=141∧Env.get env' 70= .int .i64 (k:Int)∧Env.get env' 69= .int .i64 ((ack.length:Nat):Int)∧Jb cx.h σ0 a node slot at_ X ack (k+1) env' σ')∨(e≠ .normal∧Exb cx.h σ0 a node slot at_ X ack e env' σ')):=by
 rintro k env σ hk hlen f70 f69 ⟨f0,f1,f3,f10,f13,f68,q0,ho⟩
 have hXσ:Rd Try.prog σ 39 120 X (ack.map encAk):=by have:=hX σ.st; rw[←ho.1] at this; exact this
 obtain ⟨pp,hia,hpa⟩:=hXσ.2 k (encAk ack[k]) (get_el hk)
 obtain ⟨env1,x1a,x1b,x1c,x1d⟩:=rH cx env σ k _ pp (ack[k].1) (ack[k].2) hlen hcx f68 f70 hia hpa (wokst hro ho.2.2) ho.2.2
 have f0:=(x1d 0 (by decide)).trans f0
 have f1:=(x1d 1 (by decide)).trans f1
 have f3:=(x1d 3 (by decide)).trans f3
 have f10:=(x1d 10 (by decide)).trans f10
 have f13:=(x1d 13 (by decide)).trans f13
 have f68:=(x1d 68 (by decide)).trans f68
 have f69:=(x1d 69 (by decide)).trans f69
 have f70:=(x1d 70 (by decide)).trans f70
 have f15:=x1c
 have g1:((σ:AS).push false (.cells [.int .i64 ack[k].1, .int .i64 ack[k].2])).get (.st (σ:AS).st.length)=some (.cells [.int .i64 ack[k].1, .int .i64 ack[k].2]):=AS.get_push_at rfl
 have ho:=ho.push (ob:= .cells [.int .i64 ack[k].1, .int .i64 ack[k].2])
 generalize hib1:(σ:AS).st.length=ib1 at g1 f15
 generalize (σ:AS).push false (.cells [.int .i64 ack[k].1, .int .i64 ack[k].2])=σ1 at x1a g1 ho
 obtain ⟨env2,x2a,x2b,x2c,x2d⟩:=rI cx env1 σ1 _ _ _ slot node x1b hcx f1 f3 f15 g1
 have f0:=(x2d 0 (by decide)).trans f0
 have f1:=(x2d 1 (by decide)).trans f1
 have f3:=(x2d 3 (by decide)).trans f3
 have f10:=(x2d 10 (by decide)).trans f10
 have f13:=(x2d 13 (by decide)).trans f13
 have f15:=(x2d 15 (by decide)).trans f15
 have f68:=(x2d 68 (by decide)).trans f68
 have f69:=(x2d 69 (by decide)).trans f69
 have f70:=(x2d 70 (by decide)).trans f70
 have f83:=x2c
 have ev1:=ev_tmp f83
 have hs:=dupA_succ (node:=node) (slot:=slot) hk
 have hc:=cntA_succ (slot:=slot) hk
 have hcl:=cntA_le slot (ack.take k)
 rw[List.length_take] at hcl
 cases q:(decide (ack[k].2=slot) && decide (ack[k].1=node)) with
 | true=>
  have ev1:=ev1.trans (congrArg (fun b=>some (AV.bool b)) q)
  obtain ⟨env3,x3a,x3b,x3c,x3d⟩:=rJ cx env2 σ1 x2b hcx
  have f0:=(x3d 0 (by decide)).trans f0
  have f1:=(x3d 1 (by decide)).trans f1
  have f3:=(x3d 3 (by decide)).trans f3
  have f10:=(x3d 10 (by decide)).trans f10
  have f13:=(x3d 13 (by decide)).trans f13
  have f15:=(x3d 15 (by decide)).trans f15
  have f68:=(x3d 68 (by decide)).trans f68
  have f69:=(x3d 69 (by decide)).trans f69
  have f70:=(x3d 70 (by decide)).trans f70
  have f83:=(x3d 83 (by decide)).trans f83
  have f8:=x3c.1
  have f9:=x3c.2
  exact ⟨.ret,env3,_,(block_exit (execW_seq_of x1a (execW_seq_ret (execW_seq_of x2a (execW_cond_t ev1 (execW_seq_of x3a (by rfl)))))) (by simp)), .inr ⟨by simp,rfl,x3b,f8,f9,ho,dupA_at hk q⟩⟩
 | false=>
  have ev1:=ev1.trans (congrArg (fun b=>some (AV.bool b)) q)
  rw[q,Bool.or_false] at hs
  obtain ⟨env3,x3a,x3b,x3c,x3d⟩:=rK cx env2 σ1 _ _ _ slot x2b hcx f3 f15 g1
  have f0:=(x3d 0 (by decide)).trans f0
  have f1:=(x3d 1 (by decide)).trans f1
  have f3:=(x3d 3 (by decide)).trans f3
  have f10:=(x3d 10 (by decide)).trans f10
  have f13:=(x3d 13 (by decide)).trans f13
  have f15:=(x3d 15 (by decide)).trans f15
  have f68:=(x3d 68 (by decide)).trans f68
  have f69:=(x3d 69 (by decide)).trans f69
  have f70:=(x3d 70 (by decide)).trans f70
  have f83:=(x3d 83 (by decide)).trans f83
  have f87:=x3c
  have ev2:=ev_tmp f87
  by_cases q2:ack[k].2=slot
  case pos=>
   rw[decide_eq_true q2] at ev2
   obtain ⟨env4,x4a,x4b,x4c,x4d⟩:=rL cx env3 σ1 _ x3b hcx f13 (wr_ok (by omega) (by omega))
   have f0:=(x4d 0 (by decide)).trans f0
   have f1:=(x4d 1 (by decide)).trans f1
   have f3:=(x4d 3 (by decide)).trans f3
   have f10:=(x4d 10 (by decide)).trans f10
   have f15:=(x4d 15 (by decide)).trans f15
   have f68:=(x4d 68 (by decide)).trans f68
   have f69:=(x4d 69 (by decide)).trans f69
   have f70:=(x4d 70 (by decide)).trans f70
   have f83:=(x4d 83 (by decide)).trans f83
   have f87:=(x4d 87 (by decide)).trans f87
   have f13:=x4c
   exact ⟨.normal,env4,_,(execW_block_of (execW_seq_of x1a (execW_seq_of (execW_seq_of x2a (execW_cond_f ev1 (by rfl))) (execW_seq_of x3a (execW_cond_t ev2 x4a))))), .inl ⟨rfl,x4b,f70,f69,f0,f1,f3,f10,(by rw[f13,hc,if_pos q2]; congr 1),f68,(by rw[hs]; exact q0),ho⟩⟩
  rw[decide_eq_false q2] at ev2
  exact ⟨.normal,env3,_,(execW_block_of (execW_seq_of x1a (execW_seq_of (execW_seq_of x2a (execW_cond_f ev1 (by rfl))) (execW_seq_of x3a (execW_cond_f ev2 (by rfl)))))), .inl ⟨rfl,x3b,f70,f69,f0,f1,f3,f10,(by rw[f13,hc,if_neg q2]; rfl),f68,(by rw[hs]; exact q0),ho⟩⟩
theorem loopb (cx:Cx) (hcx:cx.esc= []) (hro: ∀k,cx.ro=some k→k≤cx.h) (σ0:AS) (a:Nat) (node slot at_:Int) (X:AV) (ack:List (Int×Int)) (hX: ∀st,Rd Try.prog ⟨σ0.hp,st⟩ 39 120 X (ack.map encAk)) (hal:ack.length≤1000) (hnn:ack.length≤9223372036854775807) {env:Env} {σ:AS} (hl:env.length=141) (h1:Env.get env 70= .int .i64 0) (h2:Env.get env 69= .int .i64 ((ack.length:Nat):Int)) (h0:Jb cx.h σ0 a node slot at_ X ack 0 env σ):
  ∃e env' σ',execW Try.prog cx [] (callW Try.prog how) (cr [.r, .r, .r, .r, .r, .l, .r]) (env,σ)=some (e,(env',σ'))∧((e= .normal∧((env'.length=141∧Jb cx.h σ0 a node slot at_ X ack (ack.length) env' σ')∨Exb cx.h σ0 a node slot at_ X ack (.exit 2) env' σ'))∨(e≠ .normal∧e≠ .exit 2∧Exb cx.h σ0 a node slot at_ X ack e env' σ')):=by
 rw[loop_eqb]
 exact range_std (Ex:=Exb cx.h σ0 a node slot at_ X ack) (N:=141) (tc:=71) (ti:=70) (tl:=69) (tx:=90) (ty1:=3) (ty2:=3) (ty3:=3) (ty4:=3) ⟨by kernel_rfl,by kernel_rfl,by kernel_rfl⟩ ⟨by kernel_rfl,by kernel_rfl,by kernel_rfl⟩ ⟨by kernel_rfl,by kernel_rfl,by kernel_rfl⟩ (by decide) hnn Jb_stable (stepb cx hcx hro σ0 a node slot at_ X ack hX hal) hl h1 h2 h0
def Jc (h:Nat) (σ0:AS) (a j:Nat) (slot:Int) (v:ByteArray) (X:AV) (op:List (Int×ByteArray)) (k:Nat) (env:Env) (σ:AS):Prop:=
 Env.get env 0= .ptr (.hp a) 0∧Env.get env 10= .int .i64 (j:Int)∧Env.get env 16= .str v∧Env.get env 121=X∧(∃R0,Env.get env 17=R0∧Rows h σ [(2,R0,((op.take k).filter (fun e=>decide (e.1≠slot))).map encRw)])∧Outside h σ0 σ
def Exc (h:Nat) (σ0:AS) (a j:Nat) (slot:Int) (v:ByteArray) (X:AV) (op:List (Int×ByteArray)) (e:AExit) (env:Env) (σ:AS):Prop:=False
theorem Jc_stable {h:Nat} {σ0:AS} {a j:Nat} {slot:Int} {v:ByteArray} {X:AV} {op:List (Int×ByteArray)}: ∀k env env' σ,env.length=141→env'.length=141→(∀i,i≠124→i≠135→i≠123→Env.get env' i=Env.get env i)→Jc h σ0 a j slot v X op k env σ→Jc h σ0 a j slot v X op k env' σ:=by
 rintro k env env' σ _ _ hf ⟨j0,j10,j16,j121,⟨R0,r0,hR⟩,ho⟩
 exact ⟨(hf 0 (by decide) (by decide) (by decide)).trans j0,(hf 10 (by decide) (by decide) (by decide)).trans j10,(hf 16 (by decide) (by decide) (by decide)).trans j16,(hf 121 (by decide) (by decide) (by decide)).trans j121,⟨R0,(hf 17 (by decide) (by decide) (by decide)).trans r0,hR⟩,ho⟩
noncomputable def oTc:Oper:=(opsOf (cr [.r, .r, .r, .r, .r, .r, .r, .r, .r, .r, .l, .r, .i, .i, .l])).headD default
noncomputable def oIc:List Oper:=opsOf (cr [.r, .r, .r, .r, .r, .r, .r, .r, .r, .r, .l, .r, .i, .i, .r, .r, .r])
theorem loop_eqc:(cr [.r, .r, .r, .r, .r, .r, .r, .r, .r, .r, .l, .r])= .block 4 (.loop (.seq (.region 25 #[oTc] false) (.seq (.cond (.tmp 124) .skip (.exit 4)) (.seq (.block 5 (.seq (cr [.r, .r, .r, .r, .r, .r, .r, .r, .r, .r, .l, .r, .i, .i, .r, .r, .l, .i, .l]) (.seq (cr [.r, .r, .r, .r, .r, .r, .r, .r, .r, .r, .l, .r, .i, .i, .r, .r, .l, .i, .r, .l]) (.cond (.tmp 130) (cr [.r, .r, .r, .r, .r, .r, .r, .r, .r, .r, .l, .r, .i, .i, .r, .r, .l, .i, .r, .r, .l]) .skip)))) (.region 29 #[oIc.headD default,(oIc.drop 1).headD default] false))))):=by kernel_rfl
theorem stepc (cx:Cx) (hcx:cx.esc= []) (hro: ∀k,cx.ro=some k→k≤cx.h) (σ0:AS) (a j:Nat) (slot:Int) (v:ByteArray) (X:AV) (op:List (Int×ByteArray)) (hX: ∀st,Rd Try.prog ⟨σ0.hp,st⟩ 40 47 X (op.map encRw)) (hu: ∀i (h:i<op.length),op[i].1=slot↔i=j) (hol:op.length≤1000):
  ∀k env σ,k<op.length→env.length=141→Env.get env 123= .int .i64 (k:Int)→Env.get env 122= .int .i64 ((op.length:Nat):Int)→Jc cx.h σ0 a j slot v X op k env σ→ ∃e env' σ',execW Try.prog cx [] (callW Try.prog how) (.block 5 (.seq (cr [.r, .r, .r, .r, .r, .r, .r, .r, .r, .r, .l, .r, .i, .i, .r, .r, .l, .i, .l]) (.seq (cr [.r, .r, .r, .r, .r, .r, .r, .r, .r, .r, .l, .r, .i, .i, .r, .r, .l, .i, .r, .l]) (.cond (.tmp 130) (cr [.r, .r, .r, .r, .r, .r, .r, .r, .r, .r, .l, .r, .i, .i, .r, .r, .l, .i, .r, .r, .l]) .skip)))) (env,σ)=some (e,(env',σ'))∧
   ((e= .normal∧env'.length=141∧Env.get env' 123= .int .i64 (k:Int)∧Env.get env' 122= .int .i64 ((op.length:Nat):Int)∧Jc cx.h σ0 a j slot v X op (k+1) env' σ')∨(e≠ .normal∧Exc cx.h σ0 a j slot v X op e env' σ')):=by
 rintro k env σ hk hlen f123 f122 ⟨f0,f10,f16,f121,⟨R0,f17,hR⟩,ho⟩
 have hXσ:Rd Try.prog σ 40 47 X (op.map encRw):=by have:=hX σ.st; rw[←ho.1] at this; exact this
 obtain ⟨pp,hia,hpa⟩:=hXσ.2 k (encRw op[k]) (get_el hk)
 obtain ⟨env1,x1a,x1b,x1c,x1d⟩:=rM cx env σ k _ pp (op[k].1) (op[k].2) hlen hcx f121 f123 hia hpa (wokst hro ho.2.2) ho.2.2
 have f0:=(x1d 0 (by decide)).trans f0
 have f10:=(x1d 10 (by decide)).trans f10
 have f16:=(x1d 16 (by decide)).trans f16
 have f17:=(x1d 17 (by decide)).trans f17
 have f121:=(x1d 121 (by decide)).trans f121
 have f122:=(x1d 122 (by decide)).trans f122
 have f123:=(x1d 123 (by decide)).trans f123
 have f18:=x1c.1
 have f19:=x1c.2
 have g1:((σ:AS).push false (.cells [.int .i64 op[k].1, .str op[k].2])).get (.st (σ:AS).st.length)=some (.cells [.int .i64 op[k].1, .str op[k].2]):=AS.get_push_at rfl
 have hR:=hR.push (ob:= .cells [.int .i64 op[k].1, .str op[k].2])
 have ho:=ho.push (ob:= .cells [.int .i64 op[k].1, .str op[k].2])
 generalize hib1:(σ:AS).st.length=ib1 at g1 f19
 generalize (σ:AS).push false (.cells [.int .i64 op[k].1, .str op[k].2])=σ1 at x1a g1 hR ho
 obtain ⟨env2,x2a,x2b,x2c,x2d⟩:=rN cx env1 σ1 _ _ x1b hcx f10 f18
 have f0:=(x2d 0 (by decide)).trans f0
 have f10:=(x2d 10 (by decide)).trans f10
 have f16:=(x2d 16 (by decide)).trans f16
 have f17:=(x2d 17 (by decide)).trans f17
 have f18:=(x2d 18 (by decide)).trans f18
 have f19:=(x2d 19 (by decide)).trans f19
 have f121:=(x2d 121 (by decide)).trans f121
 have f122:=(x2d 122 (by decide)).trans f122
 have f123:=(x2d 123 (by decide)).trans f123
 have f130:=x2c
 have ev1:=ev_tmp f130
 have hs:=filter_succ (p:=fun e:Int×ByteArray=>decide (e.1≠slot)) hk
 by_cases q:k=j
 case pos=>
  rw[decide_eq_true (show (k:Int)=(j:Int) by omega)] at ev1
  have hq:=(hu k hk).2 q
  rw[if_neg (by simp[hq]),List.append_nil] at hs
  exact ⟨.normal,env2,_,(execW_block_of (execW_seq_of x1a (execW_seq_of x2a (execW_cond_f ev1 (by rfl))))), .inl ⟨rfl,x2b,f123,f122,f0,f10,f16,f121,⟨_,f17,(by rw[hs]; exact hR)⟩,ho⟩⟩
 rw[decide_eq_false (show¬(k:Int)=(j:Int) by omega)] at ev1
 have hq: ¬op[k].1=slot:=fun e=>q ((hu k hk).1 e)
 rw[if_pos (by simp[hq])] at hs
 have hfl:((op.take k).filter (fun e=>decide (e.1≠slot))).length≤op.length:=Nat.le_trans (List.length_filter_le _ _) (by rw[List.length_take]; omega)
 obtain ⟨R3,τ3,y3a,y3b,y3c,y3d,y3e⟩:=append_one (cx:=cx) (x:=encRw op[k]) (j:=0) appO hR rfl (by rw[List.length_map]; omega) (by decide) hro ho.2.2
 obtain ⟨env3,x3a,x3b,x3c,x3d⟩:=rO cx env2 σ1 _ _ _ _ R3 τ3 x2b hcx f17 f19 g1 (fun σ=>by simp[fzL]) y3a
 have f0:=(x3d 0 (by decide)).trans f0
 have f10:=(x3d 10 (by decide)).trans f10
 have f16:=(x3d 16 (by decide)).trans f16
 have f18:=(x3d 18 (by decide)).trans f18
 have f19:=(x3d 19 (by decide)).trans f19
 have f121:=(x3d 121 (by decide)).trans f121
 have f122:=(x3d 122 (by decide)).trans f122
 have f123:=(x3d 123 (by decide)).trans f123
 have f130:=(x3d 130 (by decide)).trans f130
 have f17:=x3c
 have hR:=y3c
 have ho:=y3e _ ho
 exact ⟨.normal,env3,_,(execW_block_of (execW_seq_of x1a (execW_seq_of x2a (execW_cond_t ev1 x3a)))), .inl ⟨rfl,x3b,f123,f122,f0,f10,f16,f121,⟨_,f17,(by rw[hs,List.map_append]; exact hR)⟩,ho⟩⟩
theorem loopc (cx:Cx) (hcx:cx.esc= []) (hro: ∀k,cx.ro=some k→k≤cx.h) (σ0:AS) (a j:Nat) (slot:Int) (v:ByteArray) (X:AV) (op:List (Int×ByteArray)) (hX: ∀st,Rd Try.prog ⟨σ0.hp,st⟩ 40 47 X (op.map encRw)) (hu: ∀i (h:i<op.length),op[i].1=slot↔i=j) (hol:op.length≤1000) (hnn:op.length≤9223372036854775807) {env:Env} {σ:AS} (hl:env.length=141) (h1:Env.get env 123= .int .i64 0) (h2:Env.get env 122= .int .i64 ((op.length:Nat):Int)) (h0:Jc cx.h σ0 a j slot v X op 0 env σ):
  ∃e env' σ',execW Try.prog cx [] (callW Try.prog how) (cr [.r, .r, .r, .r, .r, .r, .r, .r, .r, .r, .l, .r]) (env,σ)=some (e,(env',σ'))∧((e= .normal∧((env'.length=141∧Jc cx.h σ0 a j slot v X op (op.length) env' σ')∨Exc cx.h σ0 a j slot v X op (.exit 4) env' σ'))∨(e≠ .normal∧e≠ .exit 4∧Exc cx.h σ0 a j slot v X op e env' σ')):=by
 rw[loop_eqc]
 exact range_std (Ex:=Exc cx.h σ0 a j slot v X op) (N:=141) (tc:=124) (ti:=123) (tl:=122) (tx:=135) (ty1:=3) (ty2:=3) (ty3:=3) (ty4:=3) ⟨by kernel_rfl,by kernel_rfl,by kernel_rfl⟩ ⟨by kernel_rfl,by kernel_rfl,by kernel_rfl⟩ ⟨by kernel_rfl,by kernel_rfl,by kernel_rfl⟩ (by decide) hnn Jc_stable (stepc cx hcx hro σ0 a j slot v X op hX hu hol) hl h1 h2 h0
theorem ok (hp s:List AObj) (a:Nat) (me n k rd rn slot:Int) (r:Rv) (F:List Nat) (h:StR hp a me n r F) (hasc:r.op.Pairwise fun a b=>a.1<b.1) (hol:r.op.length≤900) (hak:r.ack.length≤900):
  ∃hp' F',callW Try.prog how 37 [.ptr (.hp a) 0, .int .i64 k, .agg [.int .u64 rd, .int .i64 rn], .int .i64 slot] ⟨hp,s⟩ none=some (ansA (accR n r k rd rn slot).2,⟨hp',s⟩)∧StR hp' a me n (accR n r k rd rn slot).1 F'∧Stp hp hp' a F F':=by
 let cx:Cx:={h:=s.length,ro:=none,esc:= []}
 have hcx:cx.esc= []:=rfl
 have hro: ∀k,cx.ro=some k→k≤cx.h:=fun k hk=>by cases hk
 obtain ⟨env,henv⟩: ∃e,e=frameA Try.f37 [.ptr (.hp a) 0, .int .i64 k, .agg [.int .u64 rd, .int .i64 rn], .int .i64 slot]:=⟨_,rfl⟩
 have hlen:env.length=141:=by rw[henv]; rfl
 have f0:Env.get env 0= .ptr (.hp a) 0:=by rw[henv]; rfl
 have f1:Env.get env 1= .int .i64 k:=by rw[henv]; rfl
 have f2:Env.get env 2= .agg [.int .u64 rd, .int .i64 rn]:=by rw[henv]; rfl
 have f3:Env.get env 3= .int .i64 slot:=by rw[henv]; rfl
 have ho:Outside s.length (AS.mk hp s) (AS.mk hp s):=Outside.refl (Nat.le_refl _)
 obtain ⟨X,A,O,G1,G2,G3,hR,rfl⟩:=h
 have hal:=at_lt2 hR.oB
 have o1:=hR.hX.one; have o2:=hR.hA.one; have o3:=hR.hO.one
 obtain ⟨env1,x1a,x1b,x1c,x1d⟩:=rA cx env (AS.mk hp s) hp s rd rn hlen hcx f2 rfl rfl
 have f0:=(x1d 0 (by decide)).trans f0
 have f1:=(x1d 1 (by decide)).trans f1
 have f2:=(x1d 2 (by decide)).trans f2
 have f3:=(x1d 3 (by decide)).trans f3
 have f6:=x1c.1
 have f8:=x1c.2.1
 have f9:=x1c.2.2
 obtain ⟨env2,x2a,x2b,x2c,x2d⟩:=rB cx env1 (AS.mk hp (s++ [AObj.cells [.int .u64 rd, .int .i64 rn]])) x1b hcx
 have f0:=(x2d 0 (by decide)).trans f0
 have f1:=(x2d 1 (by decide)).trans f1
 have f2:=(x2d 2 (by decide)).trans f2
 have f3:=(x2d 3 (by decide)).trans f3
 have f6:=(x2d 6 (by decide)).trans f6
 have f8:=(x2d 8 (by decide)).trans f8
 have f9:=(x2d 9 (by decide)).trans f9
 have f10:=x2c
 have hl:=(rdRw hR.hO (s++ [AObj.cells [.int .u64 rd, .int .i64 rn]])).1
 rw[List.length_map] at hl
 obtain ⟨env3,x3a,x3b,x3c,x3d⟩:=r2 cx env2 (AS.mk hp (s++ [AObj.cells [.int .u64 rd, .int .i64 rn]])) a me n r.st r.br r.bn r.fr r.nx X A O r.op.length x2b hcx f0 o1 o2 o3 hR.oB hl
 have f0:=(x3d 0 (by decide)).trans f0
 have f1:=(x3d 1 (by decide)).trans f1
 have f2:=(x3d 2 (by decide)).trans f2
 have f3:=(x3d 3 (by decide)).trans f3
 have f6:=(x3d 6 (by decide)).trans f6
 have f8:=(x3d 8 (by decide)).trans f8
 have f9:=(x3d 9 (by decide)).trans f9
 have f10:=(x3d 10 (by decide)).trans f10
 have f23:=x3c.1
 have f24:=x3c.2.1
 have f25:=x3c.2.2
 have ho:Outside s.length (AS.mk hp s) (AS.mk hp (s++ [AObj.cells [.int .u64 rd, .int .i64 rn]])):=⟨rfl,by simp,by simp⟩
 obtain ⟨e4,env4,σ4,x4a,x4p⟩:=loopa cx hcx hro ⟨hp,s⟩ a s.length k slot rd rn O r.op (fun st=>rdRw hR.hO st) (by omega) (σ:=AS.mk hp (s++ [AObj.cells [.int .u64 rd, .int .i64 rn]])) x3b f25 f24 (⟨f0,f1,f3,f6,(by rw[f10]; rfl),f23,(by simp[AS.get]),ho⟩)
 rcases x4p with ⟨rfl,⟨x4b,f0,f1,f3,f6,f10,f23,q0,ho⟩ | x4p⟩ | ⟨x4q,x4r,x4p⟩
 ·skip
  obtain ⟨hp1,s2⟩:=σ4
  obtain ⟨ho1,ho2,ho3⟩:=ho
  simp only at ho1 ho2 ho3
  subst ho1
  have hst2:s2.take s.length=s:=by rw[ho2,List.take_length]
  cases hm:mget slot r.op with
  | none=>
   have hne: ∀x∈r.op,x.1≠slot:=fun x hx hs=>by
    obtain ⟨v,hv⟩:=mget_mem hx
    rw[hs,hm] at hv
    cases hv
   rw[atF_no r.op.length (Nat.le_refl _) hne] at f10
   have hacc:accR n r k rd rn slot=(r,none):=by unfold accR; rw[hm]
   obtain ⟨env5,x5a,x5b,x5c,x5d⟩:=r8 cx env4 (AS.mk hp1 s2) a me n r.st r.br r.bn r.fr r.nx X A O rd rn k ((-1)) s.length hp1 s2 x4b hcx f0 f1 f6 f10 o1 o2 o3 rfl hR.oB q0
   have f0:=(x5d 0 (by decide)).trans f0
   have f1:=(x5d 1 (by decide)).trans f1
   have f3:=(x5d 3 (by decide)).trans f3
   have f6:=(x5d 6 (by decide)).trans f6
   have f10:=(x5d 10 (by decide)).trans f10
   have f23:=(x5d 23 (by decide)).trans f23
   have f64:=x5c
   have ev1:=ev_tmp f64
   rw[show decide ((0:Int)≤ -1)=false by decide,Bool.and_false] at ev1
   obtain ⟨env6,x6a,x6b,x6c,x6d⟩:=r9 cx env5 (AS.mk hp1 s2) x5b hcx
   have f0:=(x6d 0 (by decide)).trans f0
   have f1:=(x6d 1 (by decide)).trans f1
   have f3:=(x6d 3 (by decide)).trans f3
   have f6:=(x6d 6 (by decide)).trans f6
   have f10:=(x6d 10 (by decide)).trans f10
   have f23:=(x6d 23 (by decide)).trans f23
   have f64:=(x6d 64 (by decide)).trans f64
   have f8:=x6c.1
   have f9:=x6c.2
   rw[hacc]
   exact ⟨hp1,_,call_of (fl:={}) (fn:=Try.f37) (c:=bodyC) (env:=env) (e:=(.ret,(env6,AS.mk hp1 s2))) rfl Try.func37 body henv (by unfold bodyC; exact (execW_seq_of x1a (execW_seq_of x2a (execW_seq_of (execW_seq_of x3a x4a) (execW_seq_ret (execW_seq_of x5a (execW_cond_t ev1 (execW_seq_of x6a (by rfl))))))))) ((fin_two (w:=ansA none) (.inl rfl) rfl (v:= .str ⟨#[]⟩) (v':= .bool false) (by simp[Try.f37,resA,f8,f9]) (by simp[AV.back,AVs.back,ansA]) (by simp[AV.inb,AVs.inb,ansA])).trans (congrArg (fun z=>some (_,AS.mk _ z)) hst2)),⟨X,A,O,G1,G2,G3,hR,rfl⟩,Stp.refl _ _ _⟩
  | some v=>
   have hmem:=mget_some hm
   obtain ⟨j,hj,hjv⟩:=List.mem_iff_getElem.1 hmem
   have hj1:r.op[j].1=slot:=by rw[hjv]
   have hu: ∀i (h:i<r.op.length),r.op[i].1=slot↔i=j:=fun i h=>⟨fun e=>asc_at hasc h hj (by rw[e,hj1]),fun e=>by subst e; exact hj1⟩
   rw[atF_yes hj hj1 (fun i h e=>(hu i h).1 e) r.op.length hj (Nat.le_refl _)] at f10
   have hacc:accR n r k rd rn slot=if accOkR n r k rd rn slot=true then (if n<2*(cntR r slot+1) then ({r with ack:=r.ack++ [(k,slot)],op:=dropK slot r.op},some v) else ({r with ack:=r.ack++ [(k,slot)]},none)) else (r,none):=by unfold accR; rw[hm]
   have hok:accOkR n r k rd rn slot=((decide (r.st=2) && (decide (rd=r.br) && decide (rn=r.bn)) && (decide (0≤k) && decide (k<n))) && !dupA k slot r.ack):=rfl
   obtain ⟨env5,x5a,x5b,x5c,x5d⟩:=r8 cx env4 (AS.mk hp1 s2) a me n r.st r.br r.bn r.fr r.nx X A O rd rn k _ s.length hp1 s2 x4b hcx f0 f1 f6 f10 o1 o2 o3 rfl hR.oB q0
   have f0:=(x5d 0 (by decide)).trans f0
   have f1:=(x5d 1 (by decide)).trans f1
   have f3:=(x5d 3 (by decide)).trans f3
   have f6:=(x5d 6 (by decide)).trans f6
   have f10:=(x5d 10 (by decide)).trans f10
   have f23:=(x5d 23 (by decide)).trans f23
   have f64:=x5c
   have ev1:=ev_tmp f64
   rw[show decide ((0:Int)≤(j:Int))=true from decide_eq_true (Int.natCast_nonneg j),Bool.and_true] at ev1
   cases q:(decide (r.st=2) && (decide (rd=r.br) && decide (rn=r.bn)) && (decide (0≤k) && decide (k<n))) with
   | false=>
    have ev1:=ev1.trans (congrArg (fun b=>some (AV.bool !b)) q)
    obtain ⟨env6,x6a,x6b,x6c,x6d⟩:=r9 cx env5 (AS.mk hp1 s2) x5b hcx
    have f0:=(x6d 0 (by decide)).trans f0
    have f1:=(x6d 1 (by decide)).trans f1
    have f3:=(x6d 3 (by decide)).trans f3
    have f6:=(x6d 6 (by decide)).trans f6
    have f10:=(x6d 10 (by decide)).trans f10
    have f23:=(x6d 23 (by decide)).trans f23
    have f64:=(x6d 64 (by decide)).trans f64
    have f8:=x6c.1
    have f9:=x6c.2
    rw[hacc,if_neg (by rw[hok,q]; simp)]
    exact ⟨hp1,_,call_of (fl:={}) (fn:=Try.f37) (c:=bodyC) (env:=env) (e:=(.ret,(env6,AS.mk hp1 s2))) rfl Try.func37 body henv (by unfold bodyC; exact (execW_seq_of x1a (execW_seq_of x2a (execW_seq_of (execW_seq_of x3a x4a) (execW_seq_ret (execW_seq_of x5a (execW_cond_t ev1 (execW_seq_of x6a (by rfl))))))))) ((fin_two (w:=ansA none) (.inl rfl) rfl (v:= .str ⟨#[]⟩) (v':= .bool false) (by simp[Try.f37,resA,f8,f9]) (by simp[AV.back,AVs.back,ansA]) (by simp[AV.inb,AVs.inb,ansA])).trans (congrArg (fun z=>some (_,AS.mk _ z)) hst2)),⟨X,A,O,G1,G2,G3,hR,rfl⟩,Stp.refl _ _ _⟩
   | true=>
    have ev1:=ev1.trans (congrArg (fun b=>some (AV.bool !b)) q)
    obtain ⟨env6,x6a,x6b,x6c,x6d⟩:=r10 cx env5 (AS.mk hp1 s2) x5b hcx
    have f0:=(x6d 0 (by decide)).trans f0
    have f1:=(x6d 1 (by decide)).trans f1
    have f3:=(x6d 3 (by decide)).trans f3
    have f6:=(x6d 6 (by decide)).trans f6
    have f10:=(x6d 10 (by decide)).trans f10
    have f23:=(x6d 23 (by decide)).trans f23
    have f64:=(x6d 64 (by decide)).trans f64
    have f13:=x6c
    have hl:=(rdAk hR.hA s2).1
    rw[List.length_map] at hl
    obtain ⟨env7,x7a,x7b,x7c,x7d⟩:=r11 cx env6 (AS.mk hp1 s2) a me n r.st r.br r.bn r.fr r.nx X A O r.ack.length x6b hcx f0 o1 o2 o3 hR.oB hl
    have f0:=(x7d 0 (by decide)).trans f0
    have f1:=(x7d 1 (by decide)).trans f1
    have f3:=(x7d 3 (by decide)).trans f3
    have f6:=(x7d 6 (by decide)).trans f6
    have f10:=(x7d 10 (by decide)).trans f10
    have f13:=(x7d 13 (by decide)).trans f13
    have f23:=(x7d 23 (by decide)).trans f23
    have f64:=(x7d 64 (by decide)).trans f64
    have f68:=x7c.1
    have f69:=x7c.2.1
    have f70:=x7c.2.2
    have ho:Outside s.length (AS.mk hp1 s) (AS.mk hp1 s2):=⟨rfl,ho2,ho3⟩
    clear q0
    obtain ⟨e8,env8,σ8,x8a,x8p⟩:=loopb cx hcx hro ⟨hp1,s⟩ a k slot (j:Int) A r.ack (fun st=>rdAk hR.hA st) (by omega) (by omega) (σ:=AS.mk hp1 s2) x7b f70 f69 (⟨f0,f1,f3,f10,f13,f68,rfl,ho⟩)
    rcases x8p with ⟨rfl,⟨x8b,f0,f1,f3,f10,f13,f68,q0,ho⟩ | x8p⟩ | ⟨x8q,x8r,x8p⟩
    ·skip
     rw[List.take_length] at q0 f13
     obtain ⟨hp9,s3⟩:=σ8
     obtain ⟨hq1,hq2,hq3⟩:=ho
     simp only at hq1 hq2 hq3
     subst hq1
     rw[hacc,if_pos (by rw[hok,q,q0]; rfl)]
     have hz: ∀σ,fzL none σ [.int .i64 k, .int .i64 slot]=some ([.int .i64 k, .int .i64 slot],σ):=fun σ=>by simp[fzL]
     obtain ⟨R,hp2,st1,hp3,st3,z1,z2,z3,z4,z5,z6,z7,z8,A',F2,z9,z10,z11⟩:=heap_append (cx:=cx) (st:=s3++ [.row [encAk (k,slot)] 2 0 false]) (k:=s3.length) (x:=encAk (k,slot)) appK s39 rfl hR.hA (by simp) (by rw[List.length_map]; omega) (by decide) hR.oB (o:=7) (by simp[cellsR]) hR.n2
     obtain ⟨env9,x9a,x9b,x9c,x9d⟩:=r19 cx env8 (AS.mk hp9 s3) a me n r.st r.br r.bn r.fr r.nx X A O k slot R hp2 st1 hp3 st3 hp9 s3 x8b hcx f0 f1 f3 o1 o2 o3 rfl (fun _=>hR.oB) hz z1 z2
     have f0:=(x9d 0 (by decide)).trans f0
     have f1:=(x9d 1 (by decide)).trans f1
     have f3:=(x9d 3 (by decide)).trans f3
     have f10:=(x9d 10 (by decide)).trans f10
     have f13:=(x9d 13 (by decide)).trans f13
     have f68:=(x9d 68 (by decide)).trans f68
     have hl3:=at_lt2 z9
     have hst3:st3.take s.length=s:=by
      have e1:st3.take s.length=(st3.take (s3++ [AObj.row [encAk (k,slot)] 2 0 false]).length).take s.length:=by
       rw[List.take_take]; congr 1; simp; have:s.length≤s3.length:=hq3; omega
      rw[e1,z4,List.take_append_of_le_length hq3,hq2,List.take_length]
     have hln3:s.length≤st3.length:=by
      have:s.length≤s3.length:=hq3
      simp at z5; omega
     have hmap:(r.ack++ [(k,slot)]).map encAk=r.ack.map encAk++ [encAk (k,slot)]:=by simp
     have hR1:RLd hp3 a me n {r with ack:=r.ack++ [(k,slot)]} X A' O G1 F2 G3:={
      oB:=z9
      hX:=hR.hX.keep z8 fun i hi=>by simp only[List.mem_cons,not_or]; exact ⟨fun e=>hR.n1 (by rw[←e]; exact hi),hR.d12 i hi⟩
      hA:=by rw[hmap]; exact z10
      hO:=hR.hO.keep z8 fun i hi=>by simp only[List.mem_cons,not_or]; exact ⟨fun e=>hR.n3 (by rw[←e]; exact hi),fun h=>hR.d23 i h hi⟩
      n1:=hR.n1
      n2:=fun h=>(z11 a h).elim hR.n2 (fun h2=>by omega)
      n3:=hR.n3
      d12:=fun i hi h=>(z11 i h).elim (fun h1=>hR.d12 i hi h1) (fun h2=>by have:=hR.hX.lt i hi; omega)
      d13:=hR.d13
      d23:=fun i hi h=>(z11 i hi).elim (fun h1=>hR.d23 i h1 h) (fun h2=>by have:=hR.hO.lt i h; omega)}
     have hS1:Stp hp9 hp3 a (G1++G2++G3) (G1++F2++G3):=⟨z8.mono fun i hi=>by
       simp only[List.mem_cons,List.mem_append] at hi ⊢
       rcases hi with hi | hi
       ·exact .inl (.inl hi)
       ·exact .inl (.inr (.inl (.inr hi))),fun i hi=>by
       simp only[List.mem_append] at hi ⊢
       rcases hi with (hi | hi) | hi
       ·exact .inl (.inl (.inl hi))
       ·exact (z11 i hi).imp (fun h=> .inl (.inr h)) id
       ·exact .inl (.inr hi)⟩
     have p2:=hR1.hA.one
     have hcl:=cntA_le slot r.ack
     have hcr:cntR r slot=((cntA slot r.ack:Nat):Int):=rfl
     obtain ⟨env10,x10a,x10b,x10c,x10d⟩:=r20 cx env9 (AS.mk hp3 st3) a me n (({r with ack:=r.ack++ [(k,slot)]}:Rv).st) (({r with ack:=r.ack++ [(k,slot)]}:Rv).br) (({r with ack:=r.ack++ [(k,slot)]}:Rv).bn) (({r with ack:=r.ack++ [(k,slot)]}:Rv).fr) (({r with ack:=r.ack++ [(k,slot)]}:Rv).nx) X A' O _ x9b hcx f0 f13 o1 p2 o3 hR1.oB (wr_ok (by omega) (by omega))
     have f0:=(x10d 0 (by decide)).trans f0
     have f1:=(x10d 1 (by decide)).trans f1
     have f3:=(x10d 3 (by decide)).trans f3
     have f10:=(x10d 10 (by decide)).trans f10
     have f13:=(x10d 13 (by decide)).trans f13
     have f68:=(x10d 68 (by decide)).trans f68
     have f109:=x10c
     have ev2:=ev_tmp f109
     by_cases q2:n<2*(cntR r slot+1)
     case neg=>
      rw[decide_eq_true (show 2*(1+((cntA slot r.ack:Nat):Int))≤n by rw[hcr] at q2; omega)] at ev2
      obtain ⟨env11,x11a,x11b,x11c,x11d⟩:=r21 cx env10 (AS.mk hp3 st3) x10b hcx
      have f0:=(x11d 0 (by decide)).trans f0
      have f1:=(x11d 1 (by decide)).trans f1
      have f3:=(x11d 3 (by decide)).trans f3
      have f10:=(x11d 10 (by decide)).trans f10
      have f13:=(x11d 13 (by decide)).trans f13
      have f68:=(x11d 68 (by decide)).trans f68
      have f109:=(x11d 109 (by decide)).trans f109
      have f8:=x11c.1
      have f9:=x11c.2
      rw[if_neg q2]
      exact ⟨hp3,_,call_of (fl:={}) (fn:=Try.f37) (c:=bodyC) (env:=env) (e:=(.ret,(env11,AS.mk hp3 st3))) rfl Try.func37 body henv (by unfold bodyC; exact (execW_seq_of x1a (execW_seq_of x2a (execW_seq_of (execW_seq_of x3a x4a) (execW_seq_of (execW_seq_of x5a (execW_cond_f ev1 (by rfl))) (execW_seq_of x6a (execW_seq_of (execW_seq_of x7a x8a) (execW_seq_of x9a (execW_seq_ret (execW_seq_of x10a (execW_cond_t ev2 (execW_seq_of x11a (by rfl))))))))))))) ((fin_two (w:=ansA none) (.inl rfl) rfl (v:= .str ⟨#[]⟩) (v':= .bool false) (by simp[Try.f37,resA,f8,f9]) (by simp[AV.back,AVs.back,ansA]) (by simp[AV.inb,AVs.inb,ansA])).trans (congrArg (fun z=>some (_,AS.mk _ z)) hst3)),⟨X,A',O,G1,F2,G3,hR1,rfl⟩,hS1⟩
     rw[decide_eq_false (show¬2*(1+((cntA slot r.ack:Nat):Int))≤n by rw[hcr] at q2; omega)] at ev2
     rw[if_pos q2]
     obtain ⟨jr,wv,hOe,hOg⟩: ∃jr wv,O= .row (.hp jr) wv 0 (r.op.map encRw).length∧hp3[jr]?=some (.row (r.op.map encRw) 2 wv false):=by
      rcases hR1.hO with ⟨_,h2,_⟩ | ⟨jr,wv,h1,h2,_⟩
      ·have:r.op= []:=List.map_eq_nil_iff.1 h2
       rw[this] at hj
       cases hj
      ·exact ⟨jr,wv,h1,h2⟩
     have hjl:j<(r.op.map encRw).length:=by simpa using hj
     have hjg:(r.op.map encRw)[j]= .agg [.int .i64 slot, .str v]:=by
      rw[List.getElem_map,hjv]; rfl
     obtain ⟨env11,x11a,x11b,x11c,x11d⟩:=r22 cx env10 (AS.mk hp3 st3) a me n (({r with ack:=r.ack++ [(k,slot)]}:Rv).st) (({r with ack:=r.ack++ [(k,slot)]}:Rv).br) (({r with ack:=r.ack++ [(k,slot)]}:Rv).bn) (({r with ack:=r.ack++ [(k,slot)]}:Rv).fr) (({r with ack:=r.ack++ [(k,slot)]}:Rv).nx) X A' O jr wv j _ slot v x10b hcx f0 f10 o1 p2 hOe hR1.oB hOg hjl hjg
     have f0:=(x11d 0 (by decide)).trans f0
     have f1:=(x11d 1 (by decide)).trans f1
     have f3:=(x11d 3 (by decide)).trans f3
     have f10:=(x11d 10 (by decide)).trans f10
     have f13:=(x11d 13 (by decide)).trans f13
     have f68:=(x11d 68 (by decide)).trans f68
     have f109:=(x11d 109 (by decide)).trans f109
     have f16:=x11c
     obtain ⟨env12,x12a,x12b,x12c,x12d⟩:=r23 cx env11 (AS.mk hp3 st3) x11b hcx
     have f0:=(x12d 0 (by decide)).trans f0
     have f1:=(x12d 1 (by decide)).trans f1
     have f3:=(x12d 3 (by decide)).trans f3
     have f10:=(x12d 10 (by decide)).trans f10
     have f13:=(x12d 13 (by decide)).trans f13
     have f16:=(x12d 16 (by decide)).trans f16
     have f68:=(x12d 68 (by decide)).trans f68
     have f109:=(x12d 109 (by decide)).trans f109
     have f17:=x12c
     have hl9:=(rdRw hR1.hO st3).1
     rw[List.length_map] at hl9
     obtain ⟨env13,x13a,x13b,x13c,x13d⟩:=r24 cx env12 (AS.mk hp3 st3) a me n (({r with ack:=r.ack++ [(k,slot)]}:Rv).st) (({r with ack:=r.ack++ [(k,slot)]}:Rv).br) (({r with ack:=r.ack++ [(k,slot)]}:Rv).bn) (({r with ack:=r.ack++ [(k,slot)]}:Rv).fr) (({r with ack:=r.ack++ [(k,slot)]}:Rv).nx) X A' O r.op.length x12b hcx f0 o1 p2 o3 hR1.oB hl9
     have f0:=(x13d 0 (by decide)).trans f0
     have f1:=(x13d 1 (by decide)).trans f1
     have f3:=(x13d 3 (by decide)).trans f3
     have f10:=(x13d 10 (by decide)).trans f10
     have f13:=(x13d 13 (by decide)).trans f13
     have f16:=(x13d 16 (by decide)).trans f16
     have f17:=(x13d 17 (by decide)).trans f17
     have f68:=(x13d 68 (by decide)).trans f68
     have f109:=(x13d 109 (by decide)).trans f109
     have f121:=x13c.1
     have f122:=x13c.2.1
     have f123:=x13c.2.2
     have ho:Outside s.length (AS.mk hp3 st3) (AS.mk hp3 st3):=Outside.refl hln3
     obtain ⟨e14,env14,σ14,x14a,x14p⟩:=loopc cx hcx hro ⟨hp3,st3⟩ a j slot v O r.op (fun st=>rdRw hR1.hO st) hu (by omega) (by omega) (σ:=AS.mk hp3 st3) x13b f123 f122 (⟨f0,f10,f16,f121,⟨.nils,f17,Rows0⟩,ho⟩)
     rcases x14p with ⟨rfl,⟨x14b,f0,f10,f16,f121,⟨R0,f17,hR⟩,ho⟩ | x14p⟩ | ⟨x14q,x14r,x14p⟩
     ·skip
      have hRows:=hR
      obtain ⟨hpz,s5⟩:=σ14
      obtain ⟨hw1,hw2,hw3⟩:=ho
      simp only at hw1 hw2 hw3
      subst hw1
      rw[List.take_length] at hRows
      have hB:=hRows.1 _ (List.mem_singleton_self _)
      have hBo:=hB.one
      obtain ⟨hp5,st5,y2,y4,y5,y8,O2,F3,y9,y10,y11⟩:=store_built (P:=Try.prog) (T:=40) (cx:=cx) (o:=8) (b:=a) s40 rfl hB hR1.oB (by simp[cellsR])
      obtain ⟨env15,x15a,x15b,x15c,x15d⟩:=r30 cx env14 (AS.mk hpz s5) a _ hp5 st5 hpz s5 x14b hcx f0 f17 rfl hBo y2
      have f0:=(x15d 0 (by decide)).trans f0
      have f10:=(x15d 10 (by decide)).trans f10
      have f16:=(x15d 16 (by decide)).trans f16
      have f17:=(x15d 17 (by decide)).trans f17
      have f121:=(x15d 121 (by decide)).trans f121
      obtain ⟨env16,x16a,x16b,x16c,x16d⟩:=r31 cx env15 (AS.mk hp5 st5) v x15b hcx f16
      have f0:=(x16d 0 (by decide)).trans f0
      have f10:=(x16d 10 (by decide)).trans f10
      have f16:=(x16d 16 (by decide)).trans f16
      have f17:=(x16d 17 (by decide)).trans f17
      have f121:=(x16d 121 (by decide)).trans f121
      have f8:=x16c.1
      have f9:=x16c.2
      refine ⟨hp5,G1++F2++F3,call_of (fl:={}) (fn:=Try.f37) (c:=bodyC) (env:=env) (e:=(.ret,(env16,AS.mk hp5 st5))) rfl Try.func37 body henv (by unfold bodyC; exact (execW_seq_of x1a (execW_seq_of x2a (execW_seq_of (execW_seq_of x3a x4a) (execW_seq_of (execW_seq_of x5a (execW_cond_f ev1 (by rfl))) (execW_seq_of x6a (execW_seq_of (execW_seq_of x7a x8a) (execW_seq_of x9a (execW_seq_of (execW_seq_of x10a (execW_cond_f ev2 (by rfl))) (execW_seq_of x11a (execW_seq_of x12a (execW_seq_of (execW_seq_of x13a x14a) (execW_seq_of x15a (execW_seq_of x16a (by rfl))))))))))))))) ((fin_two (w:=ansA (some v)) (.inl rfl) rfl (v:= .str v) (v':= .bool true) (by simp[Try.f37,resA,f8,f9]) (by simp[AV.back,AVs.back,ansA]) (by simp[AV.inb,AVs.inb,ansA])).trans (congrArg (fun z=>some (_,AS.mk _ z)) (y4.trans (hw2.trans hst3)))),⟨X,A',O2,G1,F2,F3,?_,rfl⟩,?_,?_⟩
      ·exact {
        oB:=y9
        hX:=hR1.hX.keep y8 fun i hi=>by rw[List.mem_singleton]; exact fun e=>hR1.n1 (by rw[←e]; exact hi)
        hA:=hR1.hA.keep y8 fun i hi=>by rw[List.mem_singleton]; exact fun e=>hR1.n2 (by rw[←e]; exact hi)
        hO:=y10
        n1:=hR1.n1
        n2:=hR1.n2
        n3:=fun h=>by have:=y11 a h; omega
        d12:=hR1.d12
        d13:=fun i hi h=>by have:=y11 i h; have:=hR1.hX.lt i hi; omega
        d23:=fun i hi h=>by have:=y11 i h; have:=hR1.hA.lt i hi; omega}
      ·exact hS1.1.trans (y8.mono fun i hi=> .inl (by rw[List.mem_singleton] at hi; rw[hi]; exact List.mem_cons_self ..))
      ·intro i hi
       simp only[List.mem_append] at hi
       rcases hi with (hi | hi) | hi
       ·exact hS1.2 i (by simp[hi])
       ·exact hS1.2 i (by simp[hi])
       ·have h1:=y11 i hi
        have h2:=hS1.1.1
        exact .inr (by omega)
     ·cases x14p
     ·cases x14p
    ·cases x8p.1
    ·skip
     obtain ⟨rfl,x8b,f8,f9,ho,hdup⟩:=x8p
     rw[hacc,if_neg (by rw[hok,hdup]; simp)]
     exact ⟨hp1,_,call_of (fl:={}) (fn:=Try.f37) (c:=bodyC) (env:=env) (e:=(.ret,(env8,σ8))) rfl Try.func37 body henv (by unfold bodyC; exact (execW_seq_of x1a (execW_seq_of x2a (execW_seq_of (execW_seq_of x3a x4a) (execW_seq_of (execW_seq_of x5a (execW_cond_f ev1 (by rfl))) (execW_seq_of x6a (execW_seq_ret (execW_seq_of x7a x8a)))))))) ((fin_two (w:=ansA none) (.inl rfl) rfl (v:= .str ⟨#[]⟩) (v':= .bool false) (by simp[Try.f37,resA,f8,f9]) (by simp[AV.back,AVs.back,ansA]) (by simp[AV.inb,AVs.inb,ansA])).trans (congrArg (fun x=>some (_,x)) (outside_st ho))),⟨X,A,O,G1,G2,G3,hR,rfl⟩,Stp.refl _ _ _⟩
 ·cases x4p
 ·cases x4p
end RAcc
