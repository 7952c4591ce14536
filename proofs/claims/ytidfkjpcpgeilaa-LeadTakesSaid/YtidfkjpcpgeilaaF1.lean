/- Walk 1. -/

import Derived.Test.YtidfkjpcpgeilaaE1
import Derived.Test.YtidfkjpcpgeilaaB0
open Go Go.Abs Go.Proofs
set_option maxRecDepth 100000
set_option maxHeartbeats 4000000
set_option linter.unusedSimpArgs false
set_option linter.unusedVariables false
section
attribute [local simp] ofV ofCell ofCells seqA_nil seqA_cons seqVK_eq seqEK_eq wantedA yieldedA isVal effA ev evs evps putE optsA optsOk valA fieldAddrA fieldA loadA partA aggA isAggD buildA placesA fillA lay storeA AV.withCells buildSliceA elemsA rowParts fzL promL okE isSrc bytesOk pushA cxOf lenA binA intBinA strBinA unA indexAddrA eqA AVs.inb AV.inb Loc.inb calleeA opsOf sub bodyOf Env.get_set quietA_nil quietA_cons quietK_none quietK_some qstep newA isNew escNew boxOk newLoc flat rowPartsQ quietN quietOp isBS List.takeWhile finishA_eq finK_ret finK_normal retK backK resA oneA AV.back AVs.back execW_seq_eq seqK_normal seqK_ret seqK_exit execW_cond_eq condK_true condK_false execW_block_eq blockK_exit blockK_normal blockK_ret execW_region_eq regK_eq execW_skip execW_exit execW_ret regionA_plain regionA_quiet0 tailK_eq nilCheckA guardOk isConst lookupA keyFits mapUpdateA beqI bneI
theorem master_c (hp s:List AObj) (ro:Option Nat) (k:Int) (hro: ∀k,ro=some k→k≤s.length):
  callW Try.prog how 45 [.int .i64 k] ⟨hp,s⟩ ro=some (.bool (decide (0≤k) && decide (k<5)),⟨hp,s⟩):=by
 refine callW_body (fl:={}) (fn:=Try.f45) (c:=bodyOf Try.f45) rfl Try.func45 rfl ?_
 have henv: ∃e,e=frameA Try.f45 [.int .i64 k]:=⟨_,rfl⟩
 obtain ⟨env,henv⟩:=henv
 have hl:env.length=9:=by rw[henv]; rfl
 have h0:Env.get env 0= .int .i64 k:=by rw[henv]; rfl
 rw[←henv]
 clear henv
 by_cases p1:0≤k <;> by_cases p2:k<5
 all_goals simp -implicitDefEqProofs [Try.f45,hl,h0,wok_le hro,wok_le' hro,p1,p2]
theorem state_c (hp s:List AObj) (ro:Option Nat) (a:Nat) (me n st br bn fr pr nx:Int) (B O:AV) (hro: ∀k,ro=some k→k≤s.length) (hA: ∀s,(AS.mk hp s).get (.hp a)=some (.cells [.int .i64 me, .int .i64 n, .int .i64 st, .int .u64 br, .int .i64 bn, .int .i64 fr, .int .u8 pr,B,O, .int .i64 nx])):
  callW Try.prog how 16 [.ptr (.hp a) 0] ⟨hp,s⟩ ro=some (.int .i64 st,⟨hp,s⟩):=by
 refine callW_body (fl:={}) (fn:=Try.f16) (c:=bodyOf Try.f16) rfl Try.func16 rfl ?_
 have henv: ∃e,e=frameA Try.f16 [.ptr (.hp a) 0]:=⟨_,rfl⟩
 obtain ⟨env,henv⟩:=henv
 have hl:env.length=9:=by rw[henv]; rfl
 have h0:Env.get env 0= .ptr (.hp a) 0:=by rw[henv]; rfl
 rw[←henv]
 clear henv
 simp -implicitDefEqProofs [Try.f16,hl,h0,wok_le hro,wok_le' hro,hA]
theorem one_c (hp s:List AObj) (ro:Option Nat) (a:Nat) (me n st br bn fr pr nx:Int) (B O:AV) (k:Int) (hro: ∀k,ro=some k→k≤s.length) (hA: ∀s,(AS.mk hp s).get (.hp a)=some (.cells [.int .i64 me, .int .i64 n, .int .i64 st, .int .u64 br, .int .i64 bn, .int .i64 fr, .int .u8 pr,B,O, .int .i64 nx])):
  callW Try.prog how 25 [.ptr (.hp a) 0, .int .i64 k] ⟨hp,s⟩ ro=some (.bool (decide (0≤k) && decide (k<n)),⟨hp,s⟩):=by
 refine callW_body (fl:={}) (fn:=Try.f25) (c:=bodyOf Try.f25) rfl Try.func25 rfl ?_
 have henv: ∃e,e=frameA Try.f25 [.ptr (.hp a) 0, .int .i64 k]:=⟨_,rfl⟩
 obtain ⟨env,henv⟩:=henv
 have hl:env.length=15:=by rw[henv]; rfl
 have h0:Env.get env 0= .ptr (.hp a) 0:=by rw[henv]; rfl
 have h1:Env.get env 1= .int .i64 k:=by rw[henv]; rfl
 rw[←henv]
 clear henv
 by_cases p1:0≤k <;> by_cases p2:k<n
 all_goals simp -implicitDefEqProofs [Try.f25,hl,h0,h1,wok_le hro,wok_le' hro,hA,p1,p2]
theorem next_c (hp s:List AObj) (ro:Option Nat) (a:Nat) (me n st br bn fr pr nx:Int) (B O:AV) (hro: ∀k,ro=some k→k≤s.length) (hA: ∀s,(AS.mk hp s).get (.hp a)=some (.cells [.int .i64 me, .int .i64 n, .int .i64 st, .int .u64 br, .int .i64 bn, .int .i64 fr, .int .u8 pr,B,O, .int .i64 nx])):
  callW Try.prog how 13 [.ptr (.hp a) 0] ⟨hp,s⟩ ro=some (.int .i64 (if st=2 then nx else 0),⟨hp,s⟩):=by
 refine callW_body (fl:={}) (fn:=Try.f13) (c:=bodyOf Try.f13) rfl Try.func13 rfl ?_
 have henv: ∃e,e=frameA Try.f13 [.ptr (.hp a) 0]:=⟨_,rfl⟩
 obtain ⟨env,henv⟩:=henv
 have hl:env.length=10:=by rw[henv]; rfl
 have h0:Env.get env 0= .ptr (.hp a) 0:=by rw[henv]; rfl
 rw[←henv]
 clear henv
 have k1:callW Try.prog how 16 [.ptr (.hp a) 0] ⟨hp,s⟩ ro=some (.int .i64 st,⟨hp,s⟩):=state_c hp s ro a me n st br bn fr pr nx B O hro hA
 by_cases p1:st=2
 all_goals simp -implicitDefEqProofs [Try.f13,hl,h0,wok_le hro,wok_le' hro,hA,p1,k1]
theorem ballot_c (hp s:List AObj) (ro:Option Nat) (a:Nat) (me n st br bn fr pr nx:Int) (B O:AV) (hro: ∀k,ro=some k→k≤s.length) (hA: ∀s,(AS.mk hp s).get (.hp a)=some (.cells [.int .i64 me, .int .i64 n, .int .i64 st, .int .u64 br, .int .i64 bn, .int .i64 fr, .int .u8 pr,B,O, .int .i64 nx])):
  callW Try.prog how 18 [.ptr (.hp a) 0] ⟨hp,s⟩ ro=some (.agg [.int .u64 (if st=0 then 0 else br), .int .i64 (if st=0 then 0 else bn)],⟨hp,s⟩):=by
 refine callW_body (fl:={}) (fn:=Try.f18) (c:=bodyOf Try.f18) rfl Try.func18 rfl ?_
 have henv: ∃e,e=frameA Try.f18 [.ptr (.hp a) 0]:=⟨_,rfl⟩
 obtain ⟨env,henv⟩:=henv
 have hl:env.length=11:=by rw[henv]; rfl
 have h0:Env.get env 0= .ptr (.hp a) 0:=by rw[henv]; rfl
 rw[←henv]
 clear henv
 have k1:callW Try.prog how 16 [.ptr (.hp a) 0] ⟨hp,s++ [.cells [.int .u64 0, .int .i64 0]]⟩ ro=some (.int .i64 st,⟨hp,s++ [.cells [.int .u64 0, .int .i64 0]]⟩):=state_c hp _ ro a me n st br bn fr pr nx B O (fun k hk=>by have:=hro k hk; simp; omega) hA
 by_cases p1:st=0
 all_goals simp -implicitDefEqProofs [Try.f18,hl,h0,wok_le hro,wok_le' hro,hA,p1,k1]
theorem less_c (hp s:List AObj) (ro:Option Nat) (r1 n1 r2 n2:Int) (hro: ∀k,ro=some k→k≤s.length):
  callW Try.prog how 28 [.agg [.int .u64 r1, .int .i64 n1], .agg [.int .u64 r2, .int .i64 n2]] ⟨hp,s⟩ ro=some (.bool (decide (r1<r2) || (decide (r1=r2) && decide (n1<n2))),⟨hp,s⟩):=by
 refine callW_body (fl:={}) (fn:=Try.f28) (c:=bodyOf Try.f28) rfl Try.func28 rfl ?_
 have henv: ∃e,e=frameA Try.f28 [.agg [.int .u64 r1, .int .i64 n1], .agg [.int .u64 r2, .int .i64 n2]]:=⟨_,rfl⟩
 obtain ⟨env,henv⟩:=henv
 have hl:env.length=24:=by rw[henv]; rfl
 have h0:Env.get env 0= .agg [.int .u64 r1, .int .i64 n1]:=by rw[henv]; rfl
 have h1:Env.get env 1= .agg [.int .u64 r2, .int .i64 n2]:=by rw[henv]; rfl
 rw[←henv]
 clear henv
 by_cases p1:r1<r2 <;> by_cases p2:r1=r2 <;> by_cases p3:n1<n2
 all_goals simp -implicitDefEqProofs [Try.f28,hl,h0,h1,wok_le hro,wok_le' hro,p1,p2,p3]
theorem rless_c (hp s:List AObj) (ro:Option Nat) (r1 n1 r2 n2:Int) (hro: ∀k,ro=some k→k≤s.length):
  callW Try.prog how 47 [.agg [.int .u64 r1, .int .i64 n1], .agg [.int .u64 r2, .int .i64 n2]] ⟨hp,s⟩ ro=some (.bool (decide (r1<r2) || (decide (r1=r2) && decide (n1<n2))),⟨hp,s⟩):=by
 refine callW_body (fl:={}) (fn:=Try.f47) (c:=bodyOf Try.f47) rfl Try.func47 rfl ?_
 have henv: ∃e,e=frameA Try.f47 [.agg [.int .u64 r1, .int .i64 n1], .agg [.int .u64 r2, .int .i64 n2]]:=⟨_,rfl⟩
 obtain ⟨env,henv⟩:=henv
 have hl:env.length=20:=by rw[henv]; rfl
 have h0:Env.get env 0= .agg [.int .u64 r1, .int .i64 n1]:=by rw[henv]; rfl
 have h1:Env.get env 1= .agg [.int .u64 r2, .int .i64 n2]:=by rw[henv]; rfl
 rw[←henv]
 clear henv
 by_cases p1:r1<r2 <;> by_cases p2:r1=r2 <;> by_cases p3:n1<n2
 all_goals simp -implicitDefEqProofs [Try.f47,hl,h0,h1,wok_le hro,wok_le' hro,p1,p2,p3]
end