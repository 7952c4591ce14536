/- Walk 6. -/

import Derived.Test.YtidfkjpcpgeilaaF5
open Go Go.Abs Go.Proofs
set_option maxRecDepth 100000
set_option maxHeartbeats 4000000
set_option linter.unusedSimpArgs false
set_option linter.unusedVariables false
open Ldr
theorem keyEq_i (a b:Int):keyEq (.int .i64 a) (.int .i64 b)=some (decide (a=b)):=by
 simp only[keyEq,if_true]
 congr 1
theorem putA_new {k:Int} {v:AV}: ∀{L:List Pr},(∀e∈L,e.s≠k)→putA (.int .i64 k) v (L.map entP)=some (L.map entP++ [(.int .i64 k,v)])
 | [],_=>rfl
 | e :: L,h=>by
  have ih:=putA_new (k:=k) (v:=v) (L:=L) fun x hx=>h x (by simp[hx])
  have he: ¬k=e.s:=fun q=>h e (by simp) q.symm
  simp only[List.map_cons,putA,entP,keyEq_i,decide_eq_false he]
  rw[ih]
  rfl
section
attribute [local simp] ofV ofCell ofCells seqA_nil seqA_cons seqVK_eq seqEK_eq wantedA yieldedA isVal effA ev evs evps putE optsA optsOk valA fieldAddrA fieldA loadA partA aggA isAggD buildA placesA fillA lay storeA AV.withCells buildSliceA elemsA rowParts fzL promL okE isSrc bytesOk pushA cxOf lenA binA intBinA strBinA unA indexAddrA eqA AVs.inb AV.inb Loc.inb calleeA opsOf sub bodyOf Env.get_set quietA_nil quietA_cons quietK_none quietK_some qstep newA isNew escNew boxOk newLoc flat rowPartsQ quietN quietOp isBS List.takeWhile finishA_eq finK_ret finK_normal retK backK resA oneA AV.back AVs.back execW_seq_eq seqK_normal seqK_ret seqK_exit execW_cond_eq condK_true condK_false execW_block_eq blockK_exit blockK_normal blockK_ret execW_region_eq regK_eq execW_skip execW_exit execW_ret regionA_plain regionA_quiet0 tailK_eq nilCheckA guardOk isConst lookupA keyFits mapUpdateA beqI bneI
theorem prop_a (hp s:List AObj) (a:Nat) (me n st br bn fr pr nx:Int) (B O:AV) (val:ByteArray) (hA: ∀s,(AS.mk hp s).get (.hp a)=some (.cells [.int .i64 me, .int .i64 n, .int .i64 st, .int .u64 br, .int .i64 bn, .int .i64 fr, .int .u8 pr,B,O, .int .i64 nx])) (p1:64<(val.size:Int)):
  callW Try.prog how 22 [.ptr (.hp a) 0, .str val] ⟨hp,s⟩ none=some (.tup [.int .i64 0, .int .i64 1],⟨hp,s⟩):=by
 refine callW_body (fl:={esc:= [37]}) (fn:=Try.f22) (c:=bodyOf Try.f22) rfl Try.func22 rfl ?_
 have henv: ∃e,e=frameA Try.f22 [.ptr (.hp a) 0, .str val]:=⟨_,rfl⟩
 obtain ⟨env,henv⟩:=henv
 have hl:env.length=46:=by rw[henv]; rfl
 have h0:Env.get env 0= .ptr (.hp a) 0:=by rw[henv]; rfl
 have h1:Env.get env 1= .str val:=by rw[henv]; rfl
 rw[←henv]
 clear henv
 simp -implicitDefEqProofs [Try.f22,hl,h0,h1,hA,lenA,p1]
theorem prop_b (hp s:List AObj) (a:Nat) (me n st br bn fr pr nx:Int) (B O:AV) (val:ByteArray) (hA: ∀s,(AS.mk hp s).get (.hp a)=some (.cells [.int .i64 me, .int .i64 n, .int .i64 st, .int .u64 br, .int .i64 bn, .int .i64 fr, .int .u8 pr,B,O, .int .i64 nx])) (p1: ¬64<(val.size:Int)) (p2: ¬st=2):
  callW Try.prog how 22 [.ptr (.hp a) 0, .str val] ⟨hp,s⟩ none=some (.tup [.int .i64 0, .int .i64 10],⟨hp,s⟩):=by
 refine callW_body (fl:={esc:= [37]}) (fn:=Try.f22) (c:=bodyOf Try.f22) rfl Try.func22 rfl ?_
 have henv: ∃e,e=frameA Try.f22 [.ptr (.hp a) 0, .str val]:=⟨_,rfl⟩
 obtain ⟨env,henv⟩:=henv
 have hl:env.length=46:=by rw[henv]; rfl
 have h0:Env.get env 0= .ptr (.hp a) 0:=by rw[henv]; rfl
 have h1:Env.get env 1= .str val:=by rw[henv]; rfl
 rw[←henv]
 clear henv
 simp -implicitDefEqProofs [Try.f22,hl,h0,h1,hA,lenA,p1,p2]
theorem prop_c (hp s:List AObj) (a:Nat) (me n st br bn fr pr nx:Int) (B O:AV) (val:ByteArray) (hA: ∀s,(AS.mk hp s).get (.hp a)=some (.cells [.int .i64 me, .int .i64 n, .int .i64 st, .int .u64 br, .int .i64 bn, .int .i64 fr, .int .u8 pr,B,O, .int .i64 nx])) (p1: ¬64<(val.size:Int)) (p2:st=2) (p3:400≤nx):
  callW Try.prog how 22 [.ptr (.hp a) 0, .str val] ⟨hp,s⟩ none=some (.tup [.int .i64 0, .int .i64 9],⟨hp,s⟩):=by
 refine callW_body (fl:={esc:= [37]}) (fn:=Try.f22) (c:=bodyOf Try.f22) rfl Try.func22 rfl ?_
 have henv: ∃e,e=frameA Try.f22 [.ptr (.hp a) 0, .str val]:=⟨_,rfl⟩
 obtain ⟨env,henv⟩:=henv
 have hl:env.length=46:=by rw[henv]; rfl
 have h0:Env.get env 0= .ptr (.hp a) 0:=by rw[henv]; rfl
 have h1:Env.get env 1= .str val:=by rw[henv]; rfl
 rw[←henv]
 clear henv
 simp -implicitDefEqProofs [Try.f22,hl,h0,h1,hA,lenA,p1,p2,p3]
theorem prop_d (hp s:List AObj) (a:Nat) (me n st br bn fr pr nx:Int) (B:AV) (mo:Nat) (val:ByteArray) (hp2:List AObj) (hA: ∀s,(AS.mk hp s).get (.hp a)=some (.cells [.int .i64 me, .int .i64 n, .int .i64 st, .int .u64 br, .int .i64 bn, .int .i64 fr, .int .u8 pr,B, .map (.hp mo), .int .i64 nx])) (p1: ¬64<(val.size:Int)) (p2:st=2) (p3: ¬400≤nx) (hA2: ∀s,(AS.mk hp2 s).get (.hp a)=some (.cells [.int .i64 me, .int .i64 n, .int .i64 st, .int .u64 br, .int .i64 bn, .int .i64 fr, .int .u8 pr,B, .map (.hp mo), .int .i64 nx])) (hmu:mapUpdateA Try.prog {h:=s.length,ro:=none,esc:= [37]} ⟨hp++ [.cells [.str val, .int .u8 0]],s⟩ 76 (.map (.hp mo)) (.int .i64 nx) (.ptr (.hp hp.length) 0)=some ⟨hp2,s⟩) (hw:wr .i64 (nx+1)=nx+1):
  callW Try.prog how 22 [.ptr (.hp a) 0, .str val] ⟨hp,s⟩ none=some (.tup [.int .i64 nx, .int .i64 0],⟨hp2.set a (.cells [.int .i64 me, .int .i64 n, .int .i64 st, .int .u64 br, .int .i64 bn, .int .i64 fr, .int .u8 pr,B, .map (.hp mo), .int .i64 (nx+1)]),s⟩):=by
 refine callW_body (fl:={esc:= [37]}) (fn:=Try.f22) (c:=bodyOf Try.f22) rfl Try.func22 rfl ?_
 have henv: ∃e,e=frameA Try.f22 [.ptr (.hp a) 0, .str val]:=⟨_,rfl⟩
 obtain ⟨env,henv⟩:=henv
 have hl:env.length=46:=by rw[henv]; rfl
 have h0:Env.get env 0= .ptr (.hp a) 0:=by rw[henv]; rfl
 have h1:Env.get env 1= .str val:=by rw[henv]; rfl
 rw[←henv]
 clear henv
 simp -implicitDefEqProofs [-mapUpdateA,Try.f22,hl,h0,h1,hA,hA2,lenA,p1,p2,p3,hmu,hw,AS.set]
end
theorem prop_ok (hp s:List AObj) (a:Nat) (me n:Int) (p:Lv) (F:List Nat) (val:ByteArray) (h:StL hp a me n p F) (hlt: ∀e∈p.op,e.1<p.nx) (hnx:0≤p.nx∧p.nx≤400):
  (propE p.st p.nx val≠0∧callW Try.prog how 22 [.ptr (.hp a) 0, .str val] ⟨hp,s⟩ none=some (.tup [.int .i64 0, .int .i64 (propE p.st p.nx val)],⟨hp,s⟩))∨
  (propE p.st p.nx val=0∧ ∃hp' F',callW Try.prog how 22 [.ptr (.hp a) 0, .str val] ⟨hp,s⟩ none=some (.tup [.int .i64 p.nx, .int .i64 0],⟨hp',s⟩)∧StL hp' a me n (propL p val) F'∧Stp hp hp' a F F'):=by
 obtain ⟨B,O,hA⟩:=h.at_
 by_cases p1:64<(val.size:Int)
 ·have e:propE p.st p.nx val=1:=by unfold propE; rw[if_pos p1]
  rw[e]
  exact .inl ⟨by decide,prop_a hp s a me n p.st p.br p.bn p.fr p.pr p.nx B O val (fun _=>hA) p1⟩
 ·by_cases p2:p.st=2
  ·by_cases p3:400≤p.nx
   ·have e:propE p.st p.nx val=9:=by unfold propE; rw[if_neg p1,if_neg (by omega),if_pos p3]
    rw[e]
    exact .inl ⟨by decide,prop_c hp s a me n p.st p.br p.bn p.fr p.pr p.nx B O val (fun _=>hA) p1 p2 p3⟩
   ·have e:propE p.st p.nx val=0:=by unfold propE; rw[if_neg p1,if_neg (by omega),if_neg p3]
    refine .inr ⟨e,?_⟩
    rcases h with ⟨rfl,_,_⟩ | ⟨_,mb,mo,L,h,rfl⟩
    ·exact absurd p2 (by decide)
    ·have lA:=at_lt2 h.oA
     have lB:=at_lt2 h.oB
     have lO:=at_lt2 h.oO
     have hna:=h.na
     simp only[List.mem_cons,not_or] at hna
     obtain ⟨hab,hao,haL⟩:=hna
     have hnd:=h.nd
     simp only[List.nodup_cons,List.mem_cons,not_or] at hnd
     obtain ⟨⟨hbo,hbL⟩,hoL,hL⟩:=hnd
     have hkey: ∀e∈L,e.s≠p.nx:=fun x hx=>by
      have:=hlt (tripP x) (by rw[h.op]; exact List.mem_map_of_mem hx)
      simp only[tripP] at this
      omega
     have hg: ∀s:List AObj,(AS.mk (hp++ [.cells [.str val, .int .u8 0]]) s).get (.hp mo)=some (.map (L.map entP)):=fun s=>by
      show (hp++_)[mo]?=_
      rw[List.getElem?_append_left lO]; exact h.oO
     have hmu:mapUpdateA Try.prog {h:=s.length,ro:=none,esc:= [37]} ⟨hp++ [.cells [.str val, .int .u8 0]],s⟩ 76 (.map (.hp mo)) (.int .i64 p.nx) (.ptr (.hp hp.length) 0)=some ⟨(hp++ [AObj.cells [.str val, .int .u8 0]]).set mo (.map ((L++ [Pr.mk p.nx hp.length val 0]).map entP)),s⟩:=by
      have:=putA_new (v:=AV.ptr (.hp hp.length) 0) hkey
      simp[mapUpdateA,keyFits,fzL,AV.cells,AV.withCells,AV.one,hg,wok,AV.inb,Loc.inb,this,AS.set,entP]
     generalize hp2e:(hp++ [AObj.cells [.str val, .int .u8 0]]).set mo (.map ((L++ [Pr.mk p.nx hp.length val 0]).map entP))=hp2 at hmu
     have hold: ∀i,i<hp.length→i≠mo→hp2[i]?=hp[i]?:=fun i hi hn=>by
      rw[←hp2e,List.getElem?_set_ne (fun e=>hn e.symm),List.getElem?_append_left hi]
     have hA2:=(hold a lA hao).trans h.oA
     have hlen:hp2.length=hp.length+1:=by rw[←hp2e]; simp
     refine ⟨_,mb :: mo ::(L++ [Pr.mk p.nx hp.length val 0]).map (·.i),prop_d hp s a me n p.st p.br p.bn p.fr p.pr p.nx _ mo val hp2 (fun _=>h.oA) p1 p2 p3 (fun _=>hA2) hmu (wr_ok (by omega) (by omega)), .inr ⟨?_,mb,mo,L++ [Pr.mk p.nx hp.length val 0],?_,rfl⟩,⟨by simp[hlen],fun i hi hn=>?_⟩,fun i hi=>?_⟩
     ·unfold propL
      rw[if_pos e]
      show p.st≠0
      omega
     ·unfold propL
      rw[if_pos e]
      exact {
       oA:=List.getElem?_set_self (by omega)
       oB:=by rw[List.getElem?_set_ne hab,hold mb lB hbo]; exact h.oB
       oO:=by rw[List.getElem?_set_ne hao,←hp2e,List.getElem?_set_self (by simp; omega)]
       op:=by simp[h.op,tripP]
       oP:=fun x hx=>by
        rcases List.mem_append.1 hx with hx | hx
        ·have hxi:x.i∈L.map (·.i):=List.mem_map_of_mem hx
         rw[List.getElem?_set_ne (fun e=>haL (by rw[e]; exact hxi)),hold x.i (at_lt2 (h.oP x hx)) (fun e=>hoL (by rw[←e]; exact hxi))]
         exact h.oP x hx
        ·rw[List.mem_singleton.1 hx]
         show (hp2.set a _)[hp.length]?=some (.cells [.str val, .int .u8 0])
         rw[List.getElem?_set_ne (by omega),←hp2e,List.getElem?_set_ne (by omega)]
         simp
       nd:=by
        have hlL: ∀j∈L.map (·.i),j<hp.length:=fun j hj=>by
         obtain ⟨x,hx,rfl⟩:=List.mem_map.1 hj
         exact at_lt2 (h.oP x hx)
        simp only[List.map_append,List.map_cons,List.map_nil,List.nodup_cons,List.mem_cons,List.mem_append,List.not_mem_nil,or_false,not_or]
        refine ⟨⟨hbo,hbL,by omega⟩,⟨hoL,by omega⟩,?_⟩
        rw[List.nodup_append]
        refine ⟨hL,by simp,fun x hx y hy=>?_⟩
        have:=hlL x hx
        rw[List.mem_singleton] at hy
        omega
       na:=by
        simp only[List.map_append,List.map_cons,List.map_nil,List.mem_cons,List.mem_append,List.not_mem_nil,or_false,not_or]
        exact ⟨hab,hao,haL,by omega⟩}
     ·simp only[List.mem_cons,not_or] at hn
      rw[List.getElem?_set_ne (fun e=>hn.1 e.symm),hold i hi hn.2.2.1]
     ·simp only[List.map_append,List.map_cons,List.map_nil,List.mem_cons,List.mem_append,List.not_mem_nil,or_false] at hi ⊢
      rcases hi with hi | hi | hi | hi
      ·exact .inl (.inl hi)
      ·exact .inl (.inr (.inl hi))
      ·exact .inl (.inr (.inr hi))
      ·exact .inr (by omega)
  ·have e:propE p.st p.nx val=10:=by unfold propE; rw[if_neg p1,if_pos p2]
   rw[e]
   exact .inl ⟨by decide,prop_b hp s a me n p.st p.br p.bn p.fr p.pr p.nx B O val (fun _=>hA) p1 p2⟩