/- texts merged: RcI RcJ RcK RcL -/
import Derived.Test.YtcggohkbmhdohaaGreatDoorTrBX
import Derived.Test.YtcggohkbmhdohaaGreatDoorTrQX
import Derived.Test.YtcggohkbmhdohaaGreatDoorRcAD
import Derived.Test.YtcggohkbmhdohaaGreatDoorRtGI
import Derived.Test.YtcggohkbmhdohaaGreatDoorRcEH
import Derived.Test.YtcggohkbmhdohaaGreatDoorMtRg
import Derived.Test.YtcggohkbmhdohaaGreatDoorTrYX
import Derived.Laws.StructEq
import Derived.BigQuiet
import Derived.Deep.RegionHeld3
namespace Go.Proofs.YtcggohkbmhdohaaGreatDoor
open Go.RowKit
set_option linter.unusedVariables false
def Keeps (w w':World):Prop:=∀ p v,w.cell? p=some v → w'.cell? p=some v
theorem Keeps.of {w w':World} (h:Ext w w'):Keeps w w':=fun _ _ hc => h.cell hc
theorem Keeps.trans {a b c:World} (h:Keeps a b) (k:Keeps b c):Keeps a c:=fun p v hc => k p v (h p v hc)
theorem Row.keeps {w w':World} {v:Value} {vs:List Value} (h:Row w v vs) (hk:Keeps w w'):Row w' v vs:=by
 obtain ⟨ao,c,h1,h2,h3,h4,h5⟩:=h
 refine ⟨ao,c,h1,h2,h3,h4,fun i u hu => ?_⟩
 obtain ⟨b,off,e,hc⟩:=h5 i u hu
 exact ⟨b,off,e,hk _ _ hc⟩
theorem IntV.keeps {w w':World} {v:Value} {z:Int} (h:IntV w v z) (hk:Keeps w w'):IntV w' v z:=by
 obtain ⟨q,ao,l,c,h1,h2,h3,h4⟩:=h
 exact ⟨q,ao,l,c,h1,h2,h3,Row.keeps h4 hk⟩
theorem QV.keeps {w w':World} {v:Value} {q:Rat} (h:QV w v q) (hk:Keeps w w'):QV w' v q:=by
 obtain ⟨s,ao,l,c,ao2,l2,c2,h1,h2,h3,h4⟩:=h
 exact ⟨s,ao,l,c,ao2,l2,c2,h1,h2.keeps hk,h3,Row.keeps h4 hk⟩
theorem QsV.keeps {w w':World} {v:Value} {qs:List Rat} (h:QsV w v qs) (hk:Keeps w w'):QsV w' v qs:=by
 obtain ⟨ao,c,ts,h1,h2,h3,h4,h5⟩:=h
 refine ⟨ao,c,ts,h1,h2,h3,fun i t ht => ?_,fun i t q a b => (h5 i t q a b).keeps hk⟩
 obtain ⟨b,e,c0,c1,c2⟩:=h4 i t ht
 exact ⟨b,e,hk _ _ c0,hk _ _ c1,hk _ _ c2⟩
theorem MapG.keeps {ι:Type} [DecidableEq ι] {P:Program} {k:TypeId} {enc:ι → Value} {dom:ι → Prop} {w w':World} {b n:Nat} {f:ι → Option Value} (h:MapG P k enc dom w b n f) (hg:w.grownBy w' (some b)):Keeps w w':=fun p v hc => by
 obtain ⟨D,⟨es,clock,hb,_⟩,_⟩:=h
 refine hg.cell hc fun e => ?_
 have e2:p.block=b:=Option.some.inj e
 unfold World.cell? at hc
 rw [e2,hb] at hc
 cases hc
set_option maxHeartbeats 6400000 in
set_option maxRecDepth 100000 in
theorem strategy_any (v u:Value) (T:List Nd) (p:Int) (S:List Ch) (w:World) (htab:TabPow w) (hv:TreeIn w v T) (hT:Valid T) (hu:StrIn w u S) (hz:StrSz S) :
 Calls Tryz.prog 58 #[v,.int .i64 p,u] w fun e w' => e=.returned (.int .i64 (strategyE T p S)) ∧ Ext w w':=by
 obtain ⟨wo,rfl⟩:∃ wo:World,wo=w:=⟨_,rfl⟩
 have HSE:=Lib.hid (sets_any v T p wo hv)
 have HTB:=Lib.hid htab
 have HFS:=Lib.hid (setsP_valid hT p)
 have HFD:Hid ((setsP T p).map (·.2)=(infosT T p).map fun q => (widthT T p q:Int)):=by
  show _=_
  rw [← setsP_valid hT p]
  unfold setsP
  rw [List.map_map,List.map_map,List.map_map]
  rfl
 obtain ⟨ao,c,rfl,hlen,_⟩:=hv.open
 obtain ⟨so,sc,rfl,hsl,hs⟩:=hu.open
 have HS:=Lib.hid hs
 have HZ:=Lib.hid hz
 obtain ⟨Q,hQ⟩:∃ Q,strategyE T p S=Q:=⟨_,rfl⟩
 rw [hQ]
 unfold strategyE at hQ
 have HI10:(infosT T p).length ≤ 10:=by
  unfold infosT
  have:=List.length_filter_le (fun q => decide (0 < widthT T p q)) ((List.range 10).map Int.ofNat)
  simpa using this
 unfold SetsPost at HSE
 rw [HFS.out,HFD.out] at HSE
 obtain ⟨wd,hwd⟩:∃ wd,widthT T p=wd:=⟨_,rfl⟩
 rw [hwd] at HSE hQ
 generalize infosT T p=I at *
 clear hv hu hs hz HFS HFD htab hT hwd
 by_cases hl:I.length=S.length
 · rw [if_neg (by simpa using hl)] at hQ
   have HQ:=Lib.hid hQ
   have HLL:=Lib.hid hl
   have hb0:((S.length:Int) != (S.length:Int))=false:=by simp
   clear hQ
   go_enter Tryz.func58,Tryz.ntmps58
   go_wp2_with fail
   refine HSE.out.mono ?_
   rintro e w1 ⟨_,rfl,iv0,wv0,rfl,hI,hW,X1⟩
   obtain ⟨io,ic,rfl,_,hic⟩:=hI.open
   obtain ⟨jo,jc,rfl,_,hwc⟩:=hW.open
   have HIC:=Lib.hid hic
   have HWC:=Lib.hid hwc
   rw [List.length_map,hl]
   rw [hl] at HI10
   clear hI hW hic hwc hl HSE
   go_wp2_with fail
   go_loopw [25] (fun jv wr => ∃ (j:Nat),j ≤ S.length ∧ jv=.int .i64 j ∧ Hid (strF wd (I.drop j) (S.drop j)=Q) ∧ Ext w1 wr) (fun jv _ => S.length - (intOf jv).toNat)
   case atStart => exact ⟨0,Nat.zero_le _,rfl,by show _=_; rw [List.drop_zero,List.drop_zero]; exact HQ.out,Ext.refl _⟩
   case round =>
    obtain ⟨j,hj,rfl,HE,X⟩:=hrel
    by_cases hlt:j < S.length
    · obtain ⟨ch,d1,d2,d3⟩:=get_lt hlt
      obtain ⟨q,e1,e2,e3⟩:=get_lt (xs:=I) (k:=j) (by rw [HLL.out]; exact hlt)
      have hE:=HE.out
      rw [d2.out,e2.out,strF] at hE
      obtain ⟨b,off,oo,oc,rfl,c0,c1,hod⟩:=(HS.out.ext (X1.trans X)).at d1
      obtain ⟨b2,off2,rfl,hq0⟩:=(HIC.out.ext X).at e1
      have hiw:(I.map fun q => (wd q:Int))[j]?=some (wd q:Int):=by rw [List.getElem?_map,e1.out]; rfl
      obtain ⟨b3,off3,rfl,hw0⟩:=(HWC.out.ext X).at (Lib.hid hiw)
      have hq0:wr.cell? ⟨b2,off2 + j,none⟩=some (.int .i64 q):=hq0
      have hw0:wr.cell? ⟨b3,off3 + j,none⟩=some (.int .i64 (wd q:Int)):=hw0
      have hjj:(j:Int) < (S.length:Int):=by omega
      have HOE:=Lib.hid (fun W (hX:Ext wr W) => odds_any _ ch.2 W (tabPow_ext HTB.out ((X1.trans X).trans hX)) (hod.ext hX) (HZ.out ch (List.mem_of_getElem? d1.out)))
      obtain ⟨ci,os⟩:=ch
      dsimp only at c0 c1 hod hE HOE
      obtain ⟨T7,hT7⟩:∃ T7,wr.heap.size=T7:=⟨_,rfl⟩
      obtain ⟨W1,hW1⟩:∃ W1,wr.alloc (.cells #[.int .i64 ci,.slice oo os.length oc] 73)=W1:=⟨_,rfl⟩
      have X2:Ext wr W1:=by rw [← hW1]; exact (Ext.refl wr).alloc _
      have y0:W1.cell? ⟨T7,0,none⟩=some (.int .i64 ci):=by rw [← hW1,← hT7]; simp [go_sem]
      have y1:W1.cell? ⟨T7,1,none⟩=some (.slice oo os.length oc):=by rw [← hW1,← hT7]; simp [go_sem]
      have z0:=X2.cell hq0
      have z1:=X2.cell hw0
      have HX2:=Lib.hid (X.trans X2)
      have HX3:=Lib.hid X2
      have HY1:=Lib.hid y1
      obtain ⟨m,hm⟩:∃ m,wd q=m:=⟨_,rfl⟩
      obtain ⟨n,hn⟩:∃ n,os.length=n:=⟨_,rfl⟩
      obtain ⟨O,hO⟩:∃ O,oddsE os=O:=⟨_,rfl⟩
      rw [hm] at z1 hw0 hE
      rw [hn] at hE c1 y1 hW1 HOE HY1
      rw [hO] at hE HOE
      clear d1 d2 d3 e1 e2 e3 hlt hod hm hn hO HE X X2 HS HIC HWC hiw
      by_cases a1:ci=q
      · subst a1
        have bf1:(ci != ci)=false:=by simp
        by_cases a2:n=m
        · subst a2
          rw [if_neg (by simp)] at hE
          have bf2:((n:Int) != (n:Int))=false:=by simp
          by_cases a3:O=0
          · subst a3
            rw [if_neg (by simp)] at hE
            have HE2:=Lib.hid hE
            clear hE
            go_wp2_with fail
            clear c0 c1 hq0 hw0 hW1 hT7
            go_quiet (fail)
            have y1:=((Ext.refl W1).drewN nq).cell HY1.out
            go_wp2_with fail
            refine (HOE.out _ (HX3.out.drewN _)).mono ?_
            rintro e w6 ⟨rfl,X6⟩
            go_wp2_with fail
            go_roundw
            case rel => exact ⟨j + 1,by omega,by go_num,HE2,(HX2.out.drewN _).trans X6⟩
            case measure => simp [intOf]; omega
          · rw [if_pos a3] at hE
            subst hE
            have bo:(O != 0)=true:=by simp [a3]
            clear a3
            go_wp2_with fail
            clear c0 c1 hq0 hw0 hW1 hT7
            go_quiet (fail)
            have y1:=((Ext.refl W1).drewN nq).cell HY1.out
            go_wp2_with fail
            refine (HOE.out _ (HX3.out.drewN _)).mono ?_
            rintro e w6 ⟨rfl,X6⟩
            go_wp2_with fail
            go_ret
            exact ⟨rfl,(X1.trans (HX2.out.drewN _)).trans X6⟩
        · have hq:Q=3:=by rw [← hE,if_pos (.inr a2)]
          subst hq
          have bf2:((n:Int) != (m:Int))=true:=by rw [bne_iff_ne]; omega
          clear hE a2
          go_wp2_with fail
          clear c0 c1 hq0 hw0 hW1 hT7
          go_quiet (fail)
          go_wp2_with fail
          go_ret
          exact ⟨rfl,X1.trans (HX2.out.drewN _)⟩
      · have hq:Q=3:=by rw [← hE,if_pos (.inl a1)]
        subst hq
        have bf1:(ci != q)=true:=by rw [bne_iff_ne]; exact a1
        clear hE a1
        go_wp2_with fail
        clear c0 c1 hq0 hw0 hW1 hT7
        go_quiet (fail)
        go_wp2_with fail
        go_ret
        exact ⟨rfl,X1.trans (HX2.out.drewN _)⟩
    · have hje:j=S.length:=by omega
      subst hje
      have hE:=HE.out
      rw [List.drop_length,show I.drop S.length=[] by rw [← HLL.out,List.drop_length]] at hE
      have hq:Q=0:=by rw [← hE]; rfl
      subst hq
      have hge:¬ (S.length:Int) < (S.length:Int):=by omega
      clear hlt hE
      go_wp2_with fail
      go_ret
      exact ⟨rfl,X1.trans X⟩
 · rw [if_pos hl] at hQ
   subst hQ
   have hb0:((S.length:Int) != (I.length:Int))=true:=by rw [bne_iff_ne]; omega
   clear hl
   go_enter Tryz.func58,Tryz.ntmps58
   go_wp2_with fail
   refine HSE.out.mono ?_
   rintro e w1 ⟨_,rfl,iv0,wv0,rfl,hI,hW,X1⟩
   obtain ⟨io,ic,rfl,_,_⟩:=hI.open
   obtain ⟨jo,jc,rfl,_,_⟩:=hW.open
   rw [List.length_map]
   clear hI hW
   go_wp2_with fail
   go_ret
   exact ⟨rfl,X1⟩
def OddsPost (S:List Ch) (u:Value) (w w':World):Prop:=∃ b n f,u=.map (some b) ∧ MapG Tryz.prog 3 (Value.int .i64) (fun i:Int => (Lit.int .i64 i).wf=true) w' b n f ∧ (∀ (j:Nat) (ch:Ch),S[j]?=some ch → ∃ x,f ch.1=some x ∧ QsV w' x (ch.2.map ratOf)) ∧ Ext w w'
set_option maxHeartbeats 6400000 in
set_option maxRecDepth 100000 in
theorem oddsMap_any (u:Value) (S:List Ch) (w:World) (hu:StrIn w u S) (hz:StrSz S) (hnd:(S.map (·.1)).Nodup) (hok:∀ c ∈ S,∀ s ∈ c.2,RatOk s) (hdm:∀ c ∈ S,(Lit.int .i64 c.1).wf=true) (hln:∀ c ∈ S,c.2.length ≤ 1000000) (hl:S.length ≤ 1000000) :
 Calls Tryz.prog 93 #[u] w fun e w' => ∃ u,e=.returned u ∧ OddsPost S u w w':=by
 obtain ⟨wo,rfl⟩:∃ wo:World,wo=w:=⟨_,rfl⟩
 obtain ⟨so,sc,rfl,hsl,hs⟩:=hu.open
 have HS:=Lib.hid hs
 have HZ:=Lib.hid hz
 have HOK:=Lib.hid hok
 have HDM:=Lib.hid hdm
 have HLN:=Lib.hid hln
 have HNE:=Lib.hid (fun (i j:Nat) (a b:Ch) (h1:S[i]?=some a) (h2:S[j]?=some b) (hij:i < j) (e:a.1=b.1) => (by
  obtain ⟨p1,p2⟩:=List.getElem?_eq_some_iff.1 h1
  obtain ⟨q1,q2⟩:=List.getElem?_eq_some_iff.1 h2
  have:=(List.pairwise_iff_getElem.1 hnd) i j (by simpa using p1) (by simpa using q1) hij
  rw [List.getElem_map,List.getElem_map,p2,q2] at this
  exact this e:False))
 clear hs hz hok hdm hln hnd hu
 have hmm:=@run_makeMap Tryz.prog
 go_enter Tryz.func93,Tryz.ntmps93
 go_wp2_with fail
 go_loopw [9] (fun jv wr => ∃ (j:Nat) (f:Int → Option Value),j ≤ S.length ∧ jv=.int .i64 j ∧ Hid (MapG Tryz.prog 3 (Value.int .i64) (fun i:Int => (Lit.int .i64 i).wf=true) wr wo.heap.size j f) ∧ Hid (∀ (i:Nat) (ch:Ch),i < j → S[i]?=some ch → ∃ x,f ch.1=some x ∧ QsV wr x (ch.2.map ratOf)) ∧ Ext wo wr) (fun jv _ => S.length - (intOf jv).toNat)
 case atStart => exact ⟨0,fun _ => none,Nat.zero_le _,rfl,MapG.made wo,(fun i ch h => absurd h (by omega)),(Ext.refl wo).alloc _⟩
 case round =>
  obtain ⟨j,f,hj,rfl,HM,HF,X⟩:=hrel
  by_cases hlt:j < S.length
  · obtain ⟨ch,d1,d2,d3⟩:=get_lt hlt
    obtain ⟨b,off,oo,oc,rfl,c0,c1,hod⟩:=(HS.out.ext X).at d1
    have hjj:(j:Int) < (S.length:Int):=by omega
    have hcm:=List.mem_of_getElem? d1.out
    have HD1:=Lib.hid d1.out
    have HRI:=Lib.hid (fun W (hX:Ext wr W) => ratIn_any (.slice oo ch.2.length oc) ch.2 W (hod.ext hX) (fun s hs => ⟨HOK.out ch hcm s hs,HZ.out ch hcm s hs⟩) (HLN.out ch hcm))
    have HDC:=Lib.hid (HDM.out ch hcm)
    have him:j < maxLen:=by unfold maxLen; omega
    obtain ⟨ci,os⟩:=ch
    dsimp only at c0 c1 HRI HDC
    obtain ⟨n,hn⟩:∃ n,os.length=n:=⟨_,rfl⟩
    rw [hn] at c1 HRI
    obtain ⟨T7,hT7⟩:∃ T7,wr.heap.size=T7:=⟨_,rfl⟩
    obtain ⟨W1,hW1⟩:∃ W1,wr.alloc (.cells #[.int .i64 ci,.slice oo n oc] 73)=W1:=⟨_,rfl⟩
    have X2:Ext wr W1:=by rw [← hW1]; exact (Ext.refl wr).alloc _
    have y0:W1.cell? ⟨T7,0,none⟩=some (.int .i64 ci):=by rw [← hW1,← hT7]; simp [go_sem]
    have y1:W1.cell? ⟨T7,1,none⟩=some (.slice oo n oc):=by rw [← hW1,← hT7]; simp [go_sem]
    have HX2:=Lib.hid X2
    have HXR:=Lib.hid X
    clear d1 d2 d3 hod hcm hn X2 X hlt
    go_wp2_with fail
    clear c0 c1 hW1 hT7
    have XD:=Lib.hid (Ext.refl W1)
    go_region_law (first
     | (go_simp; go_at_call 85; refine (HRI.out _ (HX2.out.trans (by repeat' (first | with_reducible exact Ext.refl _ | with_reducible apply Ext.alloc | with_reducible apply Ext.drew | with_reducible apply Ext.drewN)))).mono ?_; rintro e w2 ⟨u2,rfl,hu2,_,X5⟩; obtain ⟨qo,qc,rfl,_,_⟩:=hu2.opn; rw [List.length_map] at hu2; have HU2:=Lib.hid hu2; have XD:=Lib.hid (XD.out.trans (Ext.trans (by repeat' (first | with_reducible exact Ext.refl _ | with_reducible apply Ext.alloc | with_reducible apply Ext.drew | with_reducible apply Ext.drewN)) X5)); have y0:=XD.out.cell y0; have HM2:=Lib.hid (HM.out.ext (HX2.out.trans XD.out)); obtain ⟨W3,hput,hm3,hg3⟩:=HM2.out.set (keyE_int Tryz.underlying3) Tryz.underlying136 him (i:=ci) HDC.out (.slice qo os.length qc); have HM3:=Lib.hid hm3; have HG3:=Lib.hid hg3; clear hm3 hg3 hu2 X5))
    all_goals
     have HKP:=Lib.hid ((Keeps.of (HX2.out.trans XD.out)).trans (HM2.out.keeps HG3.out))
     have HXE:=Lib.hid ((HXR.out.trans (HX2.out.trans XD.out)).grown HG3.out (Nat.le_refl _))
     have HFN:Hid (∀ (i:Nat) (ch:Ch),i < j + 1 → S[i]?=some ch → ∃ x,(if ch.1=ci then some (.slice qo os.length qc) else f ch.1)=some x ∧ QsV W3 x (ch.2.map ratOf)):=fun i ch hi h => by
      by_cases hij:i=j
      · subst hij
        rw [HD1.out] at h
        obtain rfl:=Option.some.inj h
        exact ⟨_,if_pos rfl,HU2.out.keeps (HM2.out.keeps HG3.out)⟩
      · have hne:¬ ch.1=ci:=fun e => HNE.out i j ch (ci,os) h HD1.out (by omega) e
        rw [if_neg hne]
        obtain ⟨x,h1,h2⟩:=HF.out i ch (by omega) h
        exact ⟨x,h1,h2.keeps HKP.out⟩
     clear hput y0
     go_wp2_with fail
     go_roundw
     case rel => exact ⟨j + 1,_,by omega,by go_num,HM3.out,HFN.out,HXE.out⟩
     case measure => simp [intOf]; omega
  · have hje:j=S.length:=by omega
    subst hje
    have hge:¬ (S.length:Int) < (S.length:Int):=by omega
    have HFA:Hid (∀ (i:Nat) (ch:Ch),S[i]?=some ch → ∃ x,f ch.1=some x ∧ QsV wr x (ch.2.map ratOf)):=fun i ch h => HF.out i ch (List.getElem?_eq_some_iff.1 h).1 h
    clear hlt
    go_wp2_with fail
    go_ret
    exact ⟨_,rfl,_,_,f,rfl,HM.out,HFA.out,X⟩
theorem pick_one {c:Nat}:∀ {S:List Ch} {e:Ch} (a:Rat),(S.map (·.1)).Nodup → e ∈ S → pickP S e.1 c a=a * ((e.2[c]?).map ratOf).getD 1
 | [],e,a,_,h => by cases h
 | s :: t,e,a,hn,h => by
   rw [List.map_cons,List.nodup_cons] at hn
   show pickP t e.1 c (if s.1=e.1 then a * ((s.2[c]?).map ratOf).getD 1 else a)=_
   rcases List.mem_cons.1 h with rfl | h
   · rw [if_pos rfl]
     exact pick_none fun x hx h2 => hn.1 (by rw [← h2]; exact List.mem_map_of_mem hx)
   · rw [if_neg (fun h2 => hn.1 (by rw [h2]; exact List.mem_map_of_mem h))]
     exact pick_one a hn.2 h
theorem str_entry {T:List Nd} (hT:Valid T) {p q:Int} {S:List Ch} (hS:strategyE T p S=0) {x:Nd} (hx:x ∈ T) (hm:isMove x p q=true):∃ (j:Nat) (e:Ch),S[j]?=some e ∧ e.1=q ∧ e.2.length=x.next.length:=by
 obtain ⟨h1,h2⟩:=strE_zero hS
 obtain ⟨m1,m2,m3⟩:=isMove_iff.1 hm
 obtain ⟨i,hi⟩:=List.mem_iff_getElem?.1 hx
 obtain ⟨w1,_,w3,w4,_⟩:=hT.wide1 hi m1
 have hw:=widthT_of hT hx hm
 have hq:q ∈ infosT T p:=by
  unfold infosT
  rw [List.mem_filter]
  refine ⟨List.mem_map.2 ⟨q.toNat,List.mem_range.2 (by omega),by show ((q.toNat:Nat):Int)=q; omega⟩,?_⟩
  rw [hw]
  exact decide_eq_true w1
 rw [← h1] at hq
 obtain ⟨e,he,rfl⟩:=List.mem_map.1 hq
 obtain ⟨j,hj⟩:=List.mem_iff_getElem?.1 he
 exact ⟨j,e,hj,rfl,by rw [(h2 e he).1,hw]⟩
@[go_sem] theorem eq_seq3 (a b c d e f:Int) (w:World):(Op.equalIn 10000 155 (.agg #[.int .i64 a,.int .i64 b,.int .i64 c]) (.agg #[.int .i64 d,.int .i64 e,.int .i64 f])).run Tryz.prog w=.ok (a == d && (b == e && c == f)) w:=by
  have u3:=Tryz.underlying3
  have a3:=Tryz.isAgg3
  have z3:=Tryz.sizeOf3
  rw [show (10000:Nat)=9999 + 1 from rfl,run_equalIn_struct w 9999 155 _ _ (by kernel_rfl) (by kernel_rfl)]
  have hf : (Tryz.prog.fieldsOf 155).toList = [{ name := "Info", type := 3, offset := 0, embedded := false, tag := "", pkgPath := "", byteOffset := 0 }, { name := "Choice", type := 3, offset := 1, embedded := false, tag := "", pkgPath := "", byteOffset := 8 }, { name := "Before", type := 3, offset := 2, embedded := false, tag := "", pkgPath := "", byteOffset := 16 }] := by kernel_rfl
  rw [hf]
  simp only [Op.eqFields]
  go_simp
  by_cases h1:a=d <;> by_cases h2:b=e <;> by_cases h3:c=f <;> simp [h1,h2,h3]
def halfT:ByteArray:=⟨#[49,47,50]⟩
def halfS (q:Int):List Ch:=[(q,[halfT,halfT])]
set_option maxHeartbeats 1600000 in
set_option maxRecDepth 100000 in
theorem half_any (q:Int) (w:World):Calls Tryz.prog 42 #[.int .i64 q] w fun e w' => ∃ u,e=.returned u ∧ StrIn w' u (halfS q) ∧ Ext w w':=by
 obtain ⟨k,hk⟩:∃ k,w.heap.size=k:=⟨_,rfl⟩
 obtain ⟨W1,hW1⟩:∃ W1,w.alloc (.cells #[.string ⟨#[49,47,50]⟩,.string ⟨#[49,47,50]⟩] 28)=W1:=⟨_,rfl⟩
 have k1:W1.heap.size=k + 1:=by rw [← hW1,World.size_alloc,hk]
 have X1:Ext w W1:=by rw [← hW1]; exact (Ext.refl w).alloc _
 have h1:Strs W1 (.slice (some ⟨k,0,none⟩) 2 2) [halfT,halfT]:=by
  rw [← hW1,← hk]
  exact lit_strs w 28 [halfT,halfT] (by simp)
 have HU:Hid (StrIn (W1.alloc (.cells #[.int .i64 q,.slice (some ⟨k,0,none⟩) 2 2] 73)) (.slice (some ⟨k + 1,0,none⟩) 1 1) (halfS q)):=by
  refine ⟨some ⟨k + 1,0,none⟩,1,rfl,Nat.le_refl _,(fun h => by cases h),by simp [halfS],fun i x hx => ?_⟩
  match i,hx with
  | 0,hx =>
    cases hx
    refine ⟨k + 1,0,.slice (some ⟨k,0,none⟩) 2 2,rfl,?_,?_,h1.ext ((Ext.refl _).alloc _)⟩
    · rw [← k1]; simp [go_sem]
    · rw [← k1]; simp [go_sem]
 have HX:=Lib.hid X1
 clear h1 X1
 go_enter Tryz.func42,Tryz.ntmps42
 go_wp2_with fail
 go_ret
 exact ⟨_,rfl,HU.out,HX.out.alloc _⟩
theorem rguess_sz:TreeSz guessT:=fun x hx => by
 unfold guessT at hx
 simp only [List.mem_cons,List.not_mem_nil,or_false] at hx
 rcases hx with rfl | rfl | rfl | rfl | rfl | rfl | rfl <;> exact ⟨by decide,fun s hs => by cases hs⟩
theorem rhalf_sz (q:Int):StrSz (halfS q):=fun x hx s hs => by
 unfold halfS at hx
 rw [List.mem_singleton] at hx
 subst hx
 simp only [List.mem_cons,List.not_mem_nil,or_false] at hs
 rcases hs with rfl | rfl <;> decide
theorem strIn_nil (w:World):StrIn w (.slice none 0 0) []:=⟨none,0,rfl,Nat.le_refl _,fun _ => rfl,by simp,fun i x hx => by simp at hx⟩
end Go.Proofs.YtcggohkbmhdohaaGreatDoor
