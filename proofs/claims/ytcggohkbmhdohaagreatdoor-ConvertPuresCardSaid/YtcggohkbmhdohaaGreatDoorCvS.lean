/- the walk of ConvertPures -/
import Derived.Test.YtcggohkbmhdohaaGreatDoorCvMO
import Derived.Test.YtcggohkbmhdohaaGreatDoorCvX
import Derived.Test.YtcggohkbmhdohaaGreatDoorRpI
import Derived.Test.YtcggohkbmhdohaaGreatDoorRpTV
namespace Go.Proofs.YtcggohkbmhdohaaGreatDoor
open Go.RowKit
set_option linter.unusedVariables false
set_option linter.unusedSimpArgs false
theorem ratT_one:ratT 1=⟨#[49]⟩:=by decide +kernel
theorem pures_pre (v o:Value) (T:List Nd) (p:Int) (S:List Ch) (w:World) (hv:TreeIn w v T) (hz:TreeSz T) (ho:StrIn w o S) (hzs:StrSz S) (htab:TabPow w) :
 Hid (Calls Tryz.prog 26 #[] w fun e w' => e=.returned (.bool true) ∧ Ext w w') ∧
 Hid (∀ W,Ext w W → Calls Tryz.prog 8 #[v] W fun e w' => ∃ n:Int,e=.returned (.int .i64 n) ∧ Ext W w') ∧
 Hid (∀ W,Ext w W → Calls Tryz.prog 9 #[o] W fun e w' => ∃ n:Int,e=.returned (.int .i64 n) ∧ Ext W w') ∧
 Hid (∀ W,Ext w W → Calls Tryz.prog 10 #[v] W fun e w' => e=.returned (.bool (mildB T)) ∧ Ext W w') ∧
 Hid (∀ W,Ext w W → Calls Tryz.prog 35 #[v,.int .i64 p] W fun e w' => ∃ u,e=.returned u ∧ PurePost T p u W w') ∧
 Hid (∀ W,Ext w W → Calls Tryz.prog 36 #[v,.int .i64 p,o] W fun e w' => ∃ u,e=.returned u ∧ MxdPost T p S u W w') ∧
 Hid (∀ W,Ext w W → Calls Tryz.prog 37 #[v,.int .i64 p] W fun e w' => e=.returned (.int .i64 (playerE T p)) ∧ Ext W w') ∧
 Hid (∀ W,Ext w W → Calls Tryz.prog 15 #[v,.int .i64 p,o] W fun e w' => e=.returned (.int .i64 (strategyE T p S)) ∧ Ext W w') :=
 ⟨convertFact_any w htab,fun W hX => treeWeight_any v T W (hv.ext hX),fun W hX => choiceWeight_any o S W (ho.ext hX),fun W hX => mild_any v T W (hv.ext hX) hz,fun W hX => cvPure_any v T p W (tabPow_ext htab hX) (hv.ext hX) hz,
   fun W hX => cvMixed_any v o T p S W (tabPow_ext htab hX) (hv.ext hX) hz (ho.ext hX) hzs,fun W hX => rPlayerError_any v T p W (hv.ext hX) hz,fun W hX => rStrategyError_any v o T p S W (hv.ext hX) (ho.ext hX) hzs⟩
set_option maxHeartbeats 6400000 in
set_option maxRecDepth 100000 in
theorem convertPures_err (v o:Value) (T:List Nd) (p:Int) (S:List Ch) (w:World) (hE:playerE T p ≠ 0) (hv:TreeIn w v T) (hz:TreeSz T) (ho:StrIn w o S) (hzs:StrSz S) (htab:TabPow w) :
 Calls Tryz.prog 6 #[v,.int .i64 p,o] w fun e w' => e=.returned (.bool true) ∧ Ext w w':=by
 obtain ⟨HF,HW,HC0,HMI,HPU,HMX,HPE,HSE⟩:=pures_pre v o T p S w hv hz ho hzs htab
 obtain ⟨E,hEE⟩:∃ E,playerE T p=E:=⟨_,rfl⟩
 have HPZ:=Lib.hid hEE
 rw [hEE] at HPE hE
 have hb0:=hE
 have hb1:(E == 0)=false:=by rw [beq_eq_false_iff_ne]; exact hE
 have hb3:(E != 0)=true:=by rw [bne_iff_ne]; exact hE
 obtain ⟨M9,hMM⟩:∃ M,mildB T=M:=⟨_,rfl⟩
 rw [hMM] at HMI
 obtain ⟨vo,vc,rfl,_,_⟩:=hv.open
 obtain ⟨so,sc,rfl,_,hso⟩:=ho.open
 clear hMM hEE hE hv ho hz hzs htab hso
 go_enter Tryz.func6,Tryz.ntmps6
 go_wp2_with fail
 refine HF.out.mono ?_
 rintro e w1 ⟨rfl,X1⟩
 go_wp2_with fail
 refine (HW.out _ X1).mono ?_
 rintro e w2 ⟨n1,rfl,X2⟩
 have Y2:=X1.trans X2
 clear X1 X2
 go_wp2_with fail
 refine (HC0.out _ Y2).mono ?_
 rintro e w3 ⟨n2,rfl,X3⟩
 have Y3:=Y2.trans X3
 clear Y2 X3
 by_cases hw:(6000:Int) < wrap64 (n1 + n2)
 · go_wp2_with fail
   go_ret
   exact ⟨rfl,Y3⟩
 go_wp2_with fail
 refine (HMI.out _ Y3).mono ?_
 rintro e w5 ⟨rfl,X5⟩
 have Y5:=Y3.trans X5
 clear Y3 X5
 cases M9 with
 | false =>
   go_wp2_with fail
   go_ret
   exact ⟨rfl,Y5⟩
 | true =>
 go_wp2_with fail
 refine (HPU.out _ Y5).mono ?_
 rintro e w6 ⟨u6,rfl,h6⟩
 unfold PurePost at h6
 rw [HPZ.out] at h6
 obtain ⟨X6,⟨_,rfl⟩ | ⟨h,_⟩ | ⟨h,_⟩⟩:=h6
 rotate_left
 · exact absurd h hb0
 · exact absurd h hb0
 have Y6:=Y5.trans X6
 clear X6 Y5
 go_wp2_with fail
 refine (HMX.out _ Y6).mono ?_
 rintro e w7 ⟨u7,rfl,h7⟩
 unfold MxdPost at h7
 rw [HPZ.out] at h7
 obtain ⟨X7,⟨_,rfl⟩ | ⟨h,_⟩ | ⟨h,_⟩ | ⟨h,_⟩ | ⟨h,_⟩⟩:=h7
 rotate_left
 · exact absurd h hb0
 · exact absurd h hb0
 · exact absurd h hb0
 · exact absurd h hb0
 have Y7:=Y6.trans X7
 clear X7 Y6
 go_wp2_with fail
 refine (HPE.out _ Y7).mono ?_
 rintro e w8 ⟨rfl,X8⟩
 have Y8:=Y7.trans X8
 clear X8 Y7
 go_wp2_with fail
 go_ret
 exact ⟨rfl,Y8⟩
set_option maxHeartbeats 6400000 in
set_option maxRecDepth 100000 in
theorem convertPures_big (v o:Value) (T:List Nd) (p:Int) (S:List Ch) (w:World) (hE:playerE T p=0) (hF:fewB 128 (widthsT T p)=false) (hv:TreeIn w v T) (hz:TreeSz T) (ho:StrIn w o S) (hzs:StrSz S) (htab:TabPow w) :
 Calls Tryz.prog 6 #[v,.int .i64 p,o] w fun e w' => e=.returned (.bool true) ∧ Ext w w':=by
 obtain ⟨HF,HW,HC0,HMI,HPU,HMX,HPE,HSE⟩:=pures_pre v o T p S w hv hz ho hzs htab
 obtain ⟨hT,hp⟩:=valid_player hE
 have HPP:=Lib.hid (fun W (hX:Ext w W) => rPures_any v T p 128 W (by omega) (by omega) (hv.ext hX) hT)
 have HPZ:=Lib.hid hE
 rw [hE] at HPE
 have HFB:=Lib.hid hF
 obtain ⟨Z,hZ⟩:∃ Z,strategyE T p S=Z:=⟨_,rfl⟩
 have HSZ:=Lib.hid hZ
 rw [hZ] at HSE
 obtain ⟨M9,hMM⟩:∃ M,mildB T=M:=⟨_,rfl⟩
 rw [hMM] at HMI
 obtain ⟨vo,vc,rfl,_,_⟩:=hv.open
 obtain ⟨so,sc,rfl,_,hso⟩:=ho.open
 clear hMM hE hZ hF hT hp hv ho hz hzs htab hso
 go_enter Tryz.func6,Tryz.ntmps6
 go_wp2_with fail
 refine HF.out.mono ?_
 rintro e w1 ⟨rfl,X1⟩
 go_wp2_with fail
 refine (HW.out _ X1).mono ?_
 rintro e w2 ⟨n1,rfl,X2⟩
 have Y2:=X1.trans X2
 clear X1 X2
 go_wp2_with fail
 refine (HC0.out _ Y2).mono ?_
 rintro e w3 ⟨n2,rfl,X3⟩
 have Y3:=Y2.trans X3
 clear Y2 X3
 by_cases hw:(6000:Int) < wrap64 (n1 + n2)
 · go_wp2_with fail
   go_ret
   exact ⟨rfl,Y3⟩
 go_wp2_with fail
 refine (HMI.out _ Y3).mono ?_
 rintro e w5 ⟨rfl,X5⟩
 have Y5:=Y3.trans X5
 clear Y3 X5
 cases M9 with
 | false =>
   go_wp2_with fail
   go_ret
   exact ⟨rfl,Y5⟩
 | true =>
 go_wp2_with fail
 refine (HPU.out _ Y5).mono ?_
 rintro e w6 ⟨u6,rfl,h6⟩
 unfold PurePost at h6
 rw [HPZ.out,HFB.out] at h6
 obtain ⟨X6,⟨h,_⟩ | ⟨_,_,rfl⟩ | ⟨_,h,_⟩⟩:=h6
 · exact absurd rfl h
 rotate_left
 · exact absurd h (by decide)
 have Y6:=Y5.trans X6
 clear X6 Y5
 go_wp2_with fail
 refine (HMX.out _ Y6).mono ?_
 rintro e w7 ⟨u7,rfl,h7⟩
 unfold MxdPost at h7
 rw [HPZ.out,HSZ.out,HFB.out] at h7
 obtain ⟨X7,h7⟩:=h7
 have HU7:Hid (∃ F:Int,u7=.tuple #[.slice none 0 0,.int .i64 F] ∧ ((Z=0 ∧ F=2) ∨ (Z ≠ 0 ∧ F=Z))):=by
  rcases h7 with ⟨h,_⟩ | ⟨_,h,rfl⟩ | ⟨_,h,_,rfl⟩ | ⟨_,_,h,_⟩ | ⟨_,_,h,_⟩
  · exact absurd rfl h
  · exact ⟨Z,rfl,.inr ⟨h,rfl⟩⟩
  · exact ⟨2,rfl,.inl ⟨h,rfl⟩⟩
  · exact absurd h (by decide)
  · exact absurd h (by decide)
 obtain ⟨F,rfl,hF2⟩:=HU7.out
 have HF2:=Lib.hid hF2
 have Y7:=Y6.trans X7
 clear h7 hF2 HU7 X7 Y6
 go_wp2_with fail
 refine (HPE.out _ Y7).mono ?_
 rintro e w8 ⟨rfl,X8⟩
 have Y8:=Y7.trans X8
 clear X8 Y7
 go_wp2_with fail
 refine (HPP.out _ Y8).mono ?_
 rintro e w9 ⟨u9,rfl,h9⟩
 unfold PurPost at h9
 rw [HFB.out] at h9
 obtain ⟨X9,⟨_,rfl⟩ | ⟨h,_⟩⟩:=h9
 rotate_left
 · exact absurd h (by decide)
 have Y9:=Y8.trans X9
 clear X9 Y8
 go_wp2_with fail
 refine (HSE.out _ Y9).mono ?_
 rintro e w10 ⟨rfl,X10⟩
 have Y10:=Y9.trans X10
 clear X10 Y9
 rcases HF2.out with ⟨rfl,rfl⟩ | ⟨hS,rfl⟩
 · go_wp2_with fail
   go_ret
   exact ⟨rfl,Y10⟩
 · have hb1:(F == 0)=false:=by rw [beq_eq_false_iff_ne]; exact hS
   have hb3:(F != 0)=true:=by rw [bne_iff_ne]; exact hS
   go_wp2_with fail
   go_ret
   exact ⟨rfl,Y10⟩
set_option maxHeartbeats 6400000 in
set_option maxRecDepth 100000 in
theorem convertPures_few1 (v o:Value) (T:List Nd) (p:Int) (S:List Ch) (w:World) (hE:playerE T p=0) (hS:strategyE T p S ≠ 0) (hF:fewB 128 (widthsT T p)=true) (hv:TreeIn w v T) (hz:TreeSz T) (ho:StrIn w o S) (hzs:StrSz S) (htab:TabPow w) :
 Calls Tryz.prog 6 #[v,.int .i64 p,o] w fun e w' => e=.returned (.bool true) ∧ Ext w w':=by
 obtain ⟨HF,HW,HC0,HMI,HPU,HMX,HPE,HSE⟩:=pures_pre v o T p S w hv hz ho hzs htab
 obtain ⟨hT,hp⟩:=valid_player hE
 have HPP:=Lib.hid (fun W (hX:Ext w W) => rPures_any v T p 128 W (by omega) (by omega) (hv.ext hX) hT)
 have HPZ:=Lib.hid hE
 rw [hE] at HPE
 have HFB:=Lib.hid hF
 obtain ⟨Z,hZ⟩:∃ Z,strategyE T p S=Z:=⟨_,rfl⟩
 have HSZ:=Lib.hid hZ
 rw [hZ] at HSE hS
 have hb1:(Z == 0)=false:=by rw [beq_eq_false_iff_ne]; exact hS
 have hb3:(Z != 0)=true:=by rw [bne_iff_ne]; exact hS
 obtain ⟨M9,hMM⟩:∃ M,mildB T=M:=⟨_,rfl⟩
 rw [hMM] at HMI
 obtain ⟨vo,vc,rfl,_,_⟩:=hv.open
 obtain ⟨so,sc,rfl,_,hso⟩:=ho.open
 clear hMM hE hZ hF hT hp hv ho hz hzs htab hso
 go_enter Tryz.func6,Tryz.ntmps6
 go_wp2_with fail
 refine HF.out.mono ?_
 rintro e w1 ⟨rfl,X1⟩
 go_wp2_with fail
 refine (HW.out _ X1).mono ?_
 rintro e w2 ⟨n1,rfl,X2⟩
 have Y2:=X1.trans X2
 clear X1 X2
 go_wp2_with fail
 refine (HC0.out _ Y2).mono ?_
 rintro e w3 ⟨n2,rfl,X3⟩
 have Y3:=Y2.trans X3
 clear Y2 X3
 by_cases hw:(6000:Int) < wrap64 (n1 + n2)
 · go_wp2_with fail
   go_ret
   exact ⟨rfl,Y3⟩
 go_wp2_with fail
 refine (HMI.out _ Y3).mono ?_
 rintro e w5 ⟨rfl,X5⟩
 have Y5:=Y3.trans X5
 clear Y3 X5
 cases M9 with
 | false =>
   go_wp2_with fail
   go_ret
   exact ⟨rfl,Y5⟩
 | true =>
 go_wp2_with fail
 refine (HPU.out _ Y5).mono ?_
 rintro e w6 ⟨u6,rfl,h6⟩
 unfold PurePost at h6
 rw [HPZ.out,HFB.out] at h6
 obtain ⟨X6,⟨h,_⟩ | ⟨_,h,_⟩ | ⟨_,_,a6,rfl,hr6⟩⟩:=h6
 · exact absurd rfl h
 · exact absurd h (by decide)
 have Y6:=Y5.trans X6
 have HR6:=Lib.hid hr6
 obtain ⟨us6,hus6,hul6,_⟩:=hr6
 obtain ⟨po6,pc6,rfl,_,_,_,_⟩:=hus6
 clear X6 Y5 hul6
 go_wp2_with fail
 refine (HMX.out _ Y6).mono ?_
 rintro e w7 ⟨u7,rfl,h7⟩
 unfold MxdPost at h7
 rw [HPZ.out,HSZ.out,HFB.out] at h7
 obtain ⟨X7,⟨h,_⟩ | ⟨_,_,rfl⟩ | ⟨_,h,_⟩ | ⟨_,h,_⟩ | ⟨_,h,_⟩⟩:=h7
 · exact absurd rfl h
 rotate_left
 · exact absurd h hS
 · exact absurd h hS
 · exact absurd h hS
 have Y7:=Y6.trans X7
 have HR7:=Lib.hid (HR6.out.ext X7)
 clear X7 Y6 HR6
 go_wp2_with fail
 refine (HPE.out _ Y7).mono ?_
 rintro e w8 ⟨rfl,X8⟩
 have Y8:=Y7.trans X8
 have HR8:=Lib.hid (HR7.out.ext X8)
 clear X8 Y7 HR7
 go_wp2_with fail
 refine (HPP.out _ Y8).mono ?_
 rintro e w9 ⟨u9,rfl,h9⟩
 unfold PurPost at h9
 rw [HFB.out] at h9
 obtain ⟨X9,⟨h,_⟩ | ⟨_,a9,rfl,hr9⟩⟩:=h9
 · exact absurd h (by decide)
 have Y9:=Y8.trans X9
 have HR9:=Lib.hid hr9
 have HQ9:=Lib.hid (HR8.out.ext X9)
 obtain ⟨us,hus,hul0,hel⟩:=hr9
 have HUL0:=Lib.hid hul0
 clear hul0
 obtain ⟨ao,ac,rfl,_,_,_,hc9⟩:=hus
 clear X9 Y8 HR8
 go_wp2_with fail
 refine (equalFn_rows _ _ _ _ (by exact HQ9.out) (by exact HR9.out)).mono ?_
 rintro e w10 ⟨rfl,X10⟩
 have Y10:=Y9.trans X10
 clear Y9 HQ9 HR9
 go_wp2_with fail
 refine (HSE.out _ Y10).mono ?_
 rintro e w11 ⟨rfl,X11⟩
 have Y11:=Y10.trans X11
 clear Y10
 go_wp2_with fail
 go_ret
 exact ⟨rfl,Y11⟩
set_option maxHeartbeats 6400000 in
set_option maxRecDepth 100000 in
theorem convertPures_few0 (v o:Value) (T:List Nd) (p:Int) (S:List Ch) (w:World) (hE:playerE T p=0) (hS:strategyE T p S=0) (hF:fewB 128 (widthsT T p)=true) (hv:TreeIn w v T) (hz:TreeSz T) (ho:StrIn w o S) (hzs:StrSz S) (htab:TabPow w) :
 Calls Tryz.prog 6 #[v,.int .i64 p,o] w fun e w' => e=.returned (.bool true) ∧ Ext w w':=by
 obtain ⟨HF,HW,HC0,HMI,HPU,HMX,HPE,HSE⟩:=pures_pre v o T p S w hv hz ho hzs htab
 obtain ⟨hT,hp⟩:=valid_player hE
 have HPP:=Lib.hid (fun W (hX:Ext w W) => rPures_any v T p 128 W (by omega) (by omega) (hv.ext hX) hT)
 have HPZ:=Lib.hid hE
 rw [hE] at HPE
 have HFB:=Lib.hid hF
 have HSZ:=Lib.hid hS
 rw [hS] at HSE
 have HSR:=Lib.hid (fun e W k (hX:Ext w W) (hk:k=W.heap.size) => StrRow.one (ho.ext hX) hzs e k hk)
 have HTA:=Lib.hid (fun v2 W (h:StrRow W v2 [S]) => tame_any v2 [S] W h)
 obtain ⟨tm,htm⟩:∃ tm,[S].all tameB=tm:=⟨_,rfl⟩
 rw [htm] at HTA
 have HTM:Hid (tm=true → tameB S=true):=fun ht => by
  rw [ht] at htm
  simpa using htm
 have hsl:S.length ≤ 10:=by
  have h:=congrArg List.length (strE_zero hS).1
  rw [List.length_map] at h
  rw [h]; exact infos_len T p
 have HOK:Hid (∀ x ∈ S,∀ s ∈ x.2,RatOk s):=fun x hx s hs => oddsE_ok ((strE_zero hS).2 x hx).2 s hs
 have HPX:Hid (∀ l ∈ purN (widthsT T p),l.length=S.length ∧ ∀ (k a:Nat) (x:Ch),l[k]?=some a → S[k]?=some x → a < x.2.length):=fun l hl => by
  obtain ⟨h1,h2⟩:=strE_zero hS
  refine ⟨?_,fun k a x ha hx => ?_⟩
  · rw [pur_len hl,widths_len,← h1,List.length_map]
  · refine pur_lt (widths_pos T p) hl ha ?_
    unfold widthsT
    rw [List.getElem?_map,← h1,List.getElem?_map,hx,(h2 x (List.mem_of_getElem? hx)).1]
    rfl
 obtain ⟨M,hM⟩:∃ M,(S.map fun x => x.2.map ratOf)=M:=⟨_,rfl⟩
 obtain ⟨f,hf9⟩:∃ f,wgtS S=f:=⟨_,rfl⟩
 have HFF:=Lib.hid hf9
 have HFW:Hid (∀ l,f l=wgtM M l l.length):=fun l => by rw [← hf9,← hM]; rfl
 have HMS:Hid (∀ (k:Nat) (x:Ch),S[k]?=some x → M[k]?=some (x.2.map ratOf)):=fun k x h => by rw [← hM,List.getElem?_map,h]; rfl
 have HRBA:Hid (tm=true → ∀ l k,RB (12 * k + 1) (wgtM M l k)):=fun ht l k => by
  rw [← hM]
  exact wgt_small hS (HTM.out ht) l k
 obtain ⟨P,hP⟩:∃ P,purN (widthsT T p)=P:=⟨_,rfl⟩
 have HPP2:=Lib.hid hP
 have HPM:Hid (pursL (widthsT T p) (prodL (widthsT T p))=P.map intsN):=by show _=_; rw [purs_map,hP]
 rw [hP] at HPX
 have HOF9:Hid (tm=true → ∀ l ∈ P,outF (f l)=(ratT (f l),0)):=fun ht l hl => by
  have h:=HRBA.out ht l l.length
  rw [← HFW.out l] at h
  have hl1:=(HPX.out l hl).1
  exact outF_RB h (by omega)
 have HMF:Hid (tm=true → mixF f P=0):=fun ht => mixF_small fun l hl => by rw [HOF9.out ht l hl]
 have HNT:Hid ((mixP f P).length ≤ 128):=by
  refine Nat.le_trans (mixP_len f P) ?_
  rw [← hP,purN_len]
  unfold fewB at hF
  exact of_decide_eq_true hF
 obtain ⟨M9,hMM⟩:∃ M,mildB T=M:=⟨_,rfl⟩
 rw [hMM] at HMI
 obtain ⟨vo,vc,rfl,_,_⟩:=hv.open
 obtain ⟨so,sc,rfl,_,hso⟩:=ho.open
 have HSO:=Lib.hid hso
 clear hMM hE hS hF hT hp hv ho hz hzs htab hso hM hf9 hP htm
 go_enter Tryz.func6,Tryz.ntmps6
 go_wp2_with fail
 refine HF.out.mono ?_
 rintro e w1 ⟨rfl,X1⟩
 go_wp2_with fail
 refine (HW.out _ X1).mono ?_
 rintro e w2 ⟨n1,rfl,X2⟩
 have Y2:=X1.trans X2
 clear X1 X2
 go_wp2_with fail
 refine (HC0.out _ Y2).mono ?_
 rintro e w3 ⟨n2,rfl,X3⟩
 have Y3:=Y2.trans X3
 clear Y2 X3
 by_cases hw:(6000:Int) < wrap64 (n1 + n2)
 · go_wp2_with fail
   go_ret
   exact ⟨rfl,Y3⟩
 go_wp2_with fail
 refine (HMI.out _ Y3).mono ?_
 rintro e w5 ⟨rfl,X5⟩
 have Y5:=Y3.trans X5
 clear Y3 X5
 cases M9 with
 | false =>
   go_wp2_with fail
   go_ret
   exact ⟨rfl,Y5⟩
 | true =>
 go_wp2_with fail
 refine (HPU.out _ Y5).mono ?_
 rintro e w6 ⟨u6,rfl,h6⟩
 unfold PurePost at h6
 rw [HPZ.out,HFB.out] at h6
 obtain ⟨X6,⟨h,_⟩ | ⟨_,h,_⟩ | ⟨_,_,a6,rfl,hr6⟩⟩:=h6
 · exact absurd rfl h
 · exact absurd h (by decide)
 have Y6:=Y5.trans X6
 have HR6:=Lib.hid hr6
 obtain ⟨us6,hus6,hul6,_⟩:=hr6
 obtain ⟨po6,pc6,rfl,_,_,_,_⟩:=hus6
 clear X6 Y5 hul6
 go_wp2_with fail
 refine (HMX.out _ Y6).mono ?_
 rintro e w7 ⟨u7,rfl,h7⟩
 unfold MxdPost at h7
 rw [HPZ.out,HSZ.out,HFB.out] at h7
 obtain ⟨X7,h7⟩:=h7
 have HM7:Hid (∃ (mo:Option Addr) (nm mc:Nat) (c7:Int),u7=.tuple #[.slice mo nm mc,.int .i64 c7] ∧ (tm=true → c7=0 ∧ PlnIn w7 (.slice mo nm mc) (mixP f P))):=by
  rcases h7 with ⟨h,_⟩ | ⟨_,h,_⟩ | ⟨_,_,h,_⟩ | ⟨_,_,_,h,rfl⟩ | ⟨_,_,_,_,a,rfl,ha⟩
  · exact absurd rfl h
  · exact absurd rfl h
  · exact absurd h (by decide)
  · exact ⟨none,0,0,_,rfl,fun ht => absurd (by rw [HFF.out,HPP2.out]; exact HMF.out ht) h⟩
  · rw [HFF.out,HPP2.out] at ha
    obtain ⟨mo,mc,rfl,_,_⟩:=ha.open
    exact ⟨mo,_,mc,0,rfl,fun _ => ⟨rfl,ha⟩⟩
 obtain ⟨mo,nm,mc,c7,rfl,h7'⟩:=HM7.out
 have HM8:=Lib.hid h7'
 clear h7 h7' HM7
 have Y7:=Y6.trans X7
 have HR7:=Lib.hid (HR6.out.ext X7)
 clear X7 Y6 HR6
 go_wp2_with fail
 refine (HPE.out _ Y7).mono ?_
 rintro e w8 ⟨rfl,X8⟩
 have Y8:=Y7.trans X8
 have HR8:=Lib.hid (HR7.out.ext X8)
 have HX8:=Lib.hid X8
 clear X8 Y7 HR7
 go_wp2_with fail
 refine (HPP.out _ Y8).mono ?_
 rintro e w9 ⟨u9,rfl,h9⟩
 unfold PurPost at h9
 rw [HFB.out] at h9
 obtain ⟨X9,⟨h,_⟩ | ⟨_,a9,rfl,hr9⟩⟩:=h9
 · exact absurd h (by decide)
 have Y9:=Y8.trans X9
 have HR9:=Lib.hid hr9
 have HQ9:=Lib.hid (HR8.out.ext X9)
 have HX9:=Lib.hid (HX8.out.trans X9)
 obtain ⟨us,hus,hul0,hel⟩:=hr9
 have HUL0:=Lib.hid hul0
 clear hul0
 obtain ⟨ao,ac,rfl,_,_,_,hc9⟩:=hus
 clear X9 Y8 HR8
 go_wp2_with fail
 refine (equalFn_rows _ _ _ _ (by exact HQ9.out) (by exact HR9.out)).mono ?_
 rintro e w10 ⟨rfl,X10⟩
 have Y10:=Y9.trans X10
 have HX10:=Lib.hid (HX9.out.trans X10)
 clear Y9 HQ9 HR9
 go_wp2_with fail
 refine (HSE.out _ Y10).mono ?_
 rintro e w11 ⟨rfl,X11⟩
 have Y11:=Y10.trans X11
 have HX11:=Lib.hid (HX10.out.trans X11)
 have HU11:=Lib.hid (X10.trans X11)
 clear Y10
 go_wp2_with fail
 refine (HTA.out _ _ (by exact HSR.out _ w11 _ Y11 (by first | rfl | simp))).mono ?_
 rintro e w12 ⟨rfl,X12⟩
 have Z12:=((Ext.refl w11).alloc _).trans X12
 have Y12:=Y11.trans Z12
 clear X12 Y11
 cases tm with
 | false =>
   go_wp2_with fail
   go_ret
   exact ⟨rfl,Y12⟩
 | true =>
 obtain ⟨rfl,hm8⟩:=HM8.out rfl
 obtain ⟨mo',mc',hme,hml,hpl⟩:=(hm8.ext (HX11.out.trans Z12)).open
 simp only [Value.slice.injEq] at hme
 obtain ⟨rfl,hnm,rfl⟩:=hme
 have HNM:=Lib.hid hnm
 have HPL:=Lib.hid hpl
 have HUS:=Lib.hid hc9
 have HUX:=Lib.hid (HU11.out.trans Z12)
 have HEL:=Lib.hid hel
 have hul:=HUL0.out
 rw [HPM.out,List.length_map] at hul
 rw [HPM.out] at HEL
 have HUL:=Lib.hid hul
 obtain ⟨nu,hnu⟩:∃ nu,us.length=nu:=⟨_,rfl⟩
 have HNU:=Lib.hid hnu
 have hnu9:nu ≤ 17592186044416:=by omega
 rw [hnu]
 have HRB:=Lib.hid (HRBA.out rfl)
 obtain ⟨wb,rfl⟩:∃ wb:World,wb=w12:=⟨_,rfl⟩
 have HY12:=Lib.hid Y12
 clear Y12 Z12 hm8 hml hpl hnm hc9 hel hul hnu HM8 HRBA
 go_wp2_with fail
 go_loopw [14,114] (fun tv jv wr => ∃ (j t:Nat),j ≤ nu ∧ jv=.int .i64 j ∧ tv=.int .i64 (t:Int) ∧ Hid ((mixP f (P.take j)).length=t) ∧ Ext wb wr) (fun _ jv _ => nu - (intOf jv).toNat)
 case atStart => exact ⟨0,0,Nat.zero_le _,rfl,rfl,rfl,Ext.refl _⟩
 case round =>
  obtain ⟨j,t,hj,rfl,rfl,HT,X⟩:=hrel
  obtain ⟨wq,rfl⟩:∃ wq:World,wq=wr:=⟨_,rfl⟩
  by_cases hlt:j < nu
  · obtain ⟨u,d1,_,_⟩:=get_lt (xs:=us) (k:=j) (by rw [HNU.out]; exact hlt)
    obtain ⟨l,q1,_,_⟩:=get_lt (xs:=P) (k:=j) (by rw [← HUL.out,HNU.out]; exact hlt)
    obtain ⟨pb,poff,hpb,p00⟩:=(HUS.out.ext (HUX.out.trans X)) j u d1.out
    subst hpb
    have p0:wq.cell? ⟨pb,poff + j,none⟩=some u:=p00
    clear p00
    have hrow:=(HEL.out j u (intsN l) d1.out (by rw [List.getElem?_map,q1.out]; rfl)).ext (HUX.out.trans X)
    have HRW:=Lib.hid hrow
    obtain ⟨lo,lc,rfl,_,hlc⟩:=hrow.open
    have hll:(intsN l).length=l.length:=by unfold intsN; rw [List.length_map]
    obtain ⟨hl1,hl2⟩:=HPX.out l (List.mem_of_getElem? q1.out)
    have HLL2:=Lib.hid hl2
    have HLC:=Lib.hid hlc
    rw [hll,hl1] at p0 HRW
    have HQ1:=q1
    obtain ⟨nl,hnl⟩:∃ nl,S.length=nl:=⟨_,rfl⟩
    have HNL:=Lib.hid hnl
    have hn10:nl ≤ 10:=by omega
    rw [hnl] at p0 HRW hl1
    have HL1:=Lib.hid hl1
    have hjj:(j:Int) < (nu:Int):=by omega
    have h00:(0:Int) ≤ (j:Int):=by omega
    clear hlt d1 q1 hrow hlc hl2 hll hl1 hnl
    go_wp2_with fail
    clear p0
    go_loopw [17,120] (fun qv kv wr => ∃ (k:Nat),k ≤ nl ∧ kv=.int .i64 k ∧ qv=.string (ratT (wgtM M l k)) ∧ Ext wq wr) (fun _ kv _ => nl - (intOf kv).toNat)
    case atStart => exact ⟨0,Nat.zero_le _,rfl,by rw [show wgtM M l 0=1 from rfl,ratT_one],Ext.refl _⟩
    case round =>
     obtain ⟨k,hk,rfl,rfl,Y⟩:=hrel
     obtain ⟨wy,rfl⟩:∃ wy:World,wy=wr:=⟨_,rfl⟩
     by_cases hlk:k < nl
     · obtain ⟨a,c1,_,_⟩:=get_lt (xs:=l) (k:=k) (by rw [HL1.out]; exact hlk)
       obtain ⟨x,x1,_,_⟩:=get_lt (xs:=S) (k:=k) (by rw [HNL.out]; exact hlk)
       obtain ⟨cb,coff,rfl,c0⟩:=(HLC.out.ext Y).at (i:=k) (x:=(a:Int)) (by show _=_; unfold intsN; rw [List.getElem?_map,c1.out]; rfl)
       have c0:wy.cell? ⟨cb,coff + k,none⟩=some (.int .i64 (a:Int)):=c0
       have hax:=HLL2.out k a x c1.out x1.out
       obtain ⟨sb,soff,oo,oc,rfl,s0,s1,hod⟩:=(HSO.out.ext (HY12.out.trans (X.trans Y))).at x1
       obtain ⟨oo2,oc2,e2,hll9,hoc⟩:=hod.open
       simp only [Value.slice.injEq] at e2
       obtain ⟨rfl,_,rfl⟩:=e2
       obtain ⟨y,y1,_,_⟩:=get_lt (xs:=x.2) (k:=a) hax
       obtain ⟨ob,ooff,rfl,o0⟩:=hoc.at y1
       have o0:wy.cell? ⟨ob,ooff + a,none⟩=some (.string y):=o0
       have hok:=HOK.out x (List.mem_of_getElem? x1.out) y (List.mem_of_getElem? y1.out)
       have hwn:wgtM M l (k + 1)=wgtM M l k * ratOf y:=by
        show _ * ((M.getD k []).getD (l.getD k 0) 0)=_
        have e1:l.getD k 0=a:=by rw [List.getD_eq_getElem?_getD,c1.out]; rfl
        have e2:M.getD k []=x.2.map ratOf:=by rw [List.getD_eq_getElem?_getD,HMS.out k x x1.out]; rfl
        rw [e1,e2,List.getD_eq_getElem?_getD,List.getElem?_map,y1.out]
        rfl
       have hty:y=ratT (ratOf y):=text_ratT hok
       have HML:=Lib.hid (fun W => rMul_any (a:=wgtM M l k) (b:=ratOf y) (k:=12 * k + 1) (m:=2000) (by omega) (HRB.out l k) (ratOf_RB2k hok) W)
       rw [← hty,← hwn] at HML
       obtain ⟨nx,hnx⟩:∃ nx,x.2.length=nx:=⟨_,rfl⟩
       rw [hnx] at s1 hax
       have hki:(k:Int) < (nl:Int):=by omega
       have hk00:(0:Int) ≤ (k:Int):=by omega
       have ha00:(0:Int) ≤ (a:Int):=by omega
       have hai:(a:Int) < (nx:Int):=by omega
       obtain ⟨qa,hqa⟩:∃ qa,ratT (wgtM M l k)=qa:=⟨_,rfl⟩
       rw [hqa] at HML
       rw [hqa]
       have hSl:=HNL.out
       clear hlk c1 x1 hod hoc y1 hok hwn hty hnx hqa s0
       rw [hSl]
       go_wp2_with fail
       refine (HML.out _).mono ?_
       rintro e w5 ⟨rfl,X5⟩
       clear c0 s1 o0
       go_wp2_with fail
       go_roundw
       case rel => exact ⟨k + 1,by omega,by go_num,rfl,Y.trans X5⟩
       case measure => simp [intOf] <;> omega
     · have hke:k=nl:=by omega
       subst hke
       have hge:¬ (k:Int) < (k:Int):=by omega
       have hfl:wgtM M l k=f l:=by rw [HFW.out l,HL1.out]
       rw [hfl]
       have HMT:=Lib.hid (mixP_take (f:=f) HQ1.out)
       by_cases hy:f l=0
       · have hmt:=HMT.out
         rw [if_pos hy,List.append_nil] at hmt
         have HTN:Hid ((mixP f (P.take (j + 1))).length=t):=by show _=_; rw [hmt]; exact HT.out
         rw [hy,ratT_zero]
         clear hlk hmt hfl hy HMT
         go_wp2_with fail
         go_roundw
         case rel => exact ⟨j + 1,t,by omega,by go_num,rfl,HTN,X.trans Y⟩
         case measure => simp [intOf] <;> omega
       · have hmt:=HMT.out
         rw [if_neg hy] at hmt
         have HTN:Hid ((mixP f (P.take (j + 1))).length=t + 1):=by show _=_; rw [hmt,List.length_append,HT.out]; rfl
         have hat:=mixP_at HQ1.out hy
         rw [HT.out,(HOF9.out (by trivial) l (List.mem_of_getElem? HQ1.out))] at hat
         have hbn:((ratT (f l)).toList == [48])=false:=rT_nb hy
         have hbq:¬ (ratT (f l)).toList=[48]:=rT_n0 hy
         have htl:t < nm:=by rw [HNM.out]; exact (List.getElem?_eq_some_iff.1 hat).1
         obtain ⟨mb,moff,oo,oc,rfl,m0,m1,hcs⟩:=(HPL.out.ext (X.trans Y)).at (show Hid ((mixP f P)[t]?=some (intsN l,ratT (f l))) from hat)
         have hlen9:(intsN l).length=k:=by unfold intsN; rw [List.length_map,HL1.out]
         dsimp only at m0 m1 hcs
         rw [hlen9] at m0 hcs
         have htn:(t:Int) < (nm:Int):=by omega
         have htn2:¬ (nm:Int) ≤ (t:Int):=by omega
         have ht00:(0:Int) ≤ (t:Int):=by omega
         have ht9:(t:Int) ≤ 17592186044416:=by have:=HNT.out; rw [HNM.out] at htl; omega
         have HCS:=Lib.hid hcs
         obtain ⟨qa,hqa⟩:∃ qa,ratT (f l)=qa:=⟨_,rfl⟩
         rw [hqa] at m1 hbn hbq
         rw [hqa]
         clear hlk hmt hfl hy HMT hat htl hcs hlen9 hqa
         go_wp2_with fail
         refine (equal_ints _ _ (intsN l) (intsN l) _ (by exact HCS.out) (by exact HRW.out.ext Y) true (by show _=_; simp)).mono ?_
         rintro e w5 ⟨rfl,X5⟩
         clear m0 m1
         go_wp2_with fail
         go_roundw
         case rel => exact ⟨j + 1,t + 1,by omega,by go_num,by go_num,HTN,(X.trans Y).trans X5⟩
         case measure => simp [intOf] <;> omega
  · have hje:j=nu:=by omega
    subst hje
    have hge:¬ (j:Int) < (j:Int):=by omega
    have htt:(t:Int)=(nm:Int):=by
     have h:=HT.out
     rw [List.take_of_length_le (by rw [← HUL.out,HNU.out]; exact Nat.le_refl _)] at h
     rw [HNM.out,← h]
    have hb1:decide ((t:Int)=(nm:Int))=true:=decide_eq_true htt
    have hb2:((t:Int) == (nm:Int))=true:=by rw [beq_iff_eq]; exact htt
    clear hlt
    go_wp2_with fail
    go_ret
    exact ⟨by first | rfl | simp [htt],HY12.out.trans X⟩
theorem convertPures_walk (v o:Value) (T:List Nd) (p:Int) (S:List Ch) (w:World) (hv:TreeIn w v T) (hz:TreeSz T) (ho:StrIn w o S) (hzs:StrSz S) (htab:TabPow w) :
 Calls Tryz.prog 6 #[v,.int .i64 p,o] w fun e w' => e=.returned (.bool true) ∧ Ext w w':=by
 by_cases hE:playerE T p=0
 · cases hF:fewB 128 (widthsT T p) with
   | false => exact convertPures_big v o T p S w hE hF hv hz ho hzs htab
   | true =>
     by_cases hS:strategyE T p S=0
     · exact convertPures_few0 v o T p S w hE hS hF hv hz ho hzs htab
     · exact convertPures_few1 v o T p S w hE hS hF hv hz ho hzs htab
 · exact convertPures_err v o T p S w hE hv hz ho hzs htab
end Go.Proofs.YtcggohkbmhdohaaGreatDoor
