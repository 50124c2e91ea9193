/- declarations that one law alone asks for -/
import Derived.Test.YtcggohkbmhdohaaGreatDoorCvMO
namespace Go.Proofs.YtcggohkbmhdohaaGreatDoor
open Go.RowKit
set_option linter.unusedVariables false
set_option linter.unusedSimpArgs false
theorem intsN_repl (n:Nat):(intsN (List.replicate n 0)).map (Value.int .i64)=(madeCells #[.int .i64 0] (n * 1)).toList:=by
 apply List.ext_getElem?
 intro i
 by_cases hi:i < n
 · unfold intsN
   rw [List.getElem?_map,List.getElem?_map,List.getElem?_replicate,if_pos hi,List.getElem?_eq_getElem (by simp [madeCells]; exact hi)]
   simp [madeCells,Nat.mod_one]
 · rw [List.getElem?_eq_none (by unfold intsN; simp; omega),List.getElem?_eq_none (by simp [madeCells]; omega)]
theorem intsN_set (l:List Nat) (i r:Nat):((intsN l).map (Value.int .i64)).set i (.int .i64 (r:Int))=(intsN (l.set i r)).map (Value.int .i64):=by
 unfold intsN
 rw [← List.map_set,← List.map_set]
theorem widths_get {T:List Nd} {p q:Int} {i:Nat} (h:(infosT T p)[i]?=some q):(widthsT T p)[i]?=some (widthT T p q):=by unfold widthsT; rw [List.getElem?_map,h]; rfl
theorem pursL_succ (ws:List Nat) (N:Nat):pursL ws (N + 1)=pursL ws N ++ [intsN (pureN ws N)]:=by unfold pursL; rw [List.range_succ,List.map_append]; rfl
def PurPost (T:List Nd) (p:Int) (most:Nat) (u:Value) (w w':World):Prop:=Ext w w' ∧ ((fewB most (widthsT T p)=false ∧ u=.tuple #[.slice none 0 0,.bool false]) ∨
 (fewB most (widthsT T p)=true ∧ ∃ a,u=.tuple #[a,.bool true] ∧ Rows (Value.int .i64) w' a (pursL (widthsT T p) (prodL (widthsT T p)))))
set_option maxHeartbeats 6400000 in
set_option maxRecDepth 100000 in
theorem rPures_any (v:Value) (T:List Nd) (p:Int) (most:Nat) (w:World) (h1:1 ≤ most) (h2:most ≤ 1000) (hv:TreeIn w v T) (hT:Valid T) :
 Calls Tryz.prog 22 #[v,.int .i64 p,.int .i64 (most:Int)] w fun e w' => ∃ u,e=.returned u ∧ PurPost T p most u w w':=by
 have HIN:=Lib.hid (rInfos_any v T p w hv)
 have HWD:=Lib.hid (fun (q:Int) W (hX:Ext w W) => rWidth_any v T p q W (hv.ext hX))
 have HWL:=Lib.hid (fun (q:Int) => widthT_le hT p q)
 have HPS:=Lib.hid (widths_pos T p)
 have HGT:=Lib.hid (fun (i:Nat) (q:Int) (h:(infosT T p)[i]?=some q) => widths_get h)
 have hil:=infos_len T p
 have hwl:=widths_len T p
 obtain ⟨vo,vc,rfl,_,_⟩:=hv.open
 have HIP:Hid (∀ q ∈ infosT T p,0 < widthT T p q):=fun q hq => info_pos hq
 obtain ⟨ws,hws⟩:∃ ws,widthsT T p=ws:=⟨_,rfl⟩
 have HWS:=Lib.hid hws
 rw [hws] at HPS HGT hwl
 obtain ⟨I,hI⟩:∃ I,infosT T p=I:=⟨_,rfl⟩
 rw [hI] at HIN HGT hil hwl HIP
 obtain ⟨n,hn⟩:∃ n,I.length=n:=⟨_,rfl⟩
 rw [hn] at hil hwl
 have HNI:=Lib.hid hn
 have HWN:=Lib.hid hwl
 clear hv hT hws hI hn hwl
 go_enter Tryz.func22,Tryz.ntmps22
 go_wp2_with fail
 refine HIN.out.mono ?_
 rintro e w2 ⟨u2,rfl,h2',X2⟩
 obtain ⟨lo,lc,rfl,_,hA⟩:=h2'.open
 rw [HNI.out]
 have HA:=Lib.hid hA
 have HX2:=Lib.hid X2
 clear h2' hA X2 HIN
 go_wp2_with fail
 go_loopw [9,23] (fun av iv wr => ∃ (i m:Nat),i ≤ n ∧ iv=.int .i64 i ∧ av=.int .i64 (m:Int) ∧ m ≤ most ∧ Hid (m=prodL (ws.take i)) ∧ Ext w2 wr) (fun _ iv _ => n - (intOf iv).toNat)
 case atStart => exact ⟨0,1,Nat.zero_le _,rfl,rfl,h1,by show _=_; rw [List.take_zero]; rfl,Ext.refl _⟩
 case round =>
  obtain ⟨i,m,hi,rfl,rfl,hm,HM,X⟩:=hrel
  by_cases hlt:i < n
  · obtain ⟨q,q1,_,_⟩:=get_lt (xs:=I) (k:=i) (by rw [HNI.out]; exact hlt)
    obtain ⟨ib,ioff,rfl,i0⟩:=(HA.out.ext X).at q1
    have i0:wr.cell? ⟨ib,ioff + i,none⟩=some (.int .i64 q):=i0
    have hii:(i:Int) < (n:Int):=by omega
    have hx6:=HWL.out q
    have hgt:=HGT.out i q q1.out
    have hpt:=prodL_take_succ hgt
    rw [← HM.out] at hpt
    obtain ⟨x,hx⟩:∃ x,widthT T p q=x:=⟨_,rfl⟩
    rw [hx] at hx6 hpt
    obtain ⟨y,hy⟩:∃ y,m * x=y:=⟨_,rfl⟩
    rw [hy] at hpt
    have hyb:y ≤ 6000:=by rw [← hy]; exact Nat.le_trans (Nat.mul_le_mul (Nat.le_trans hm h2) hx6) (by omega)
    have e1:(m:Int) * (x:Int)=(y:Int):=by rw [← hy,Int.natCast_mul]
    have e2:IntKind.i64.wrap ((m:Int) * (x:Int))=(y:Int):=by rw [e1,IntKind.wrap_i64]; omega
    have HPT:=Lib.hid hpt
    have HWX:=Lib.hid (HWD.out q)
    rw [hx] at HWX
    clear hlt q1 hgt hpt hx hy
    go_wp2_with fail
    refine (HWX.out _ (HX2.out.trans X)).mono ?_
    rintro e w3 ⟨rfl,X3⟩
    clear i0
    by_cases hg:most < y
    · have hgi:(most:Int) < (y:Int):=by omega
      have HFW:Hid (fewB most ws=false):=few_take HPS.out (i + 1) (by rw [HPT.out]; exact hg)
      have HXF:=Lib.hid ((HX2.out.trans X).trans X3)
      clear hg X X3
      go_wp2_with fail
      go_ret2
      refine ⟨_,rfl,?_⟩
      unfold PurPost
      rw [HWS.out]
      exact ⟨HXF.out,.inl ⟨HFW.out,rfl⟩⟩
    · have hgi:¬ (most:Int) < (y:Int):=by omega
      have XN:=Lib.hid (X.trans X3)
      clear X X3
      go_wp2_with fail
      go_roundw
      case rel => exact ⟨i + 1,y,by omega,by go_num,rfl,by omega,by show _=_; exact HPT.out.symm,XN.out⟩
      case measure => simp [intOf] <;> omega
  · have hie:i=n:=by omega
    subst hie
    have hge:¬ (i:Int) < (i:Int):=by omega
    have hmp:=HM.out
    rw [← HWN.out,List.take_length] at hmp
    have HMP:=Lib.hid hmp
    have HFW:Hid (fewB most ws=true):=by show _=_; unfold fewB; rw [← hmp]; exact decide_eq_true hm
    have HXA:=Lib.hid X
    obtain ⟨w8,rfl⟩:∃ w8:World,w8=wr:=⟨_,rfl⟩
    obtain ⟨iq,iq1,iq2,iq3,iq4⟩:=ei_ints.info
    clear hlt hmp HM X
    go_wp2_with fail
    go_loopw [12,38] (fun ov iv wr => ∃ (k:Nat) (L:List (List Int × Value)),k ≤ m ∧ iv=.int .i64 k ∧ Hid (L.map (·.1)=pursL ws k) ∧ Hid (L.length=k) ∧ Hid (RO wr w8.heap.size ov L) ∧ Ext w8 wr) (fun _ iv _ => m - (intOf iv).toNat)
    case atStart => exact ⟨0,[],Nat.zero_le _,rfl,rfl,rfl,RO.nil _ _,Ext.refl _⟩
    case round =>
     obtain ⟨k,L,hk,rfl,HL,HLL,HO,X⟩:=hrel
     obtain ⟨wq,rfl⟩:∃ wq:World,wq=wr:=⟨_,rfl⟩
     by_cases hlt:k < m
     · have hkk:(k:Int) < (m:Int):=by omega
       obtain ⟨K7,hK7⟩:∃ K7,wq.heap.size=K7:=⟨_,rfl⟩
       clear hlt
       go_wp2_with (first
        | (refine wpList_make_full _ rfl _ _ _ rfl K7 3 iq (.int .i64 0) 1 ei_ints.und iq1 iq2 iq3 .i64 .i64 _ _ i rfl rfl rfl rfl (by rw [iq4]; omega) (by unfold maxLen; omega) (by omega) ?_; intro w4 hm1 hm2; have X4:Ext wq w4:=⟨hm2.os,hm2.tape,hm2.output,hm2.size,fun k hk => hm2.block k hk (by simp)⟩; rw [hK7] at hm1))
       have hm1:w4.ownsRow K7 3 1 (.slice (some ⟨K7,0,none⟩) i i) i (madeCells #[.int .i64 0] (i * 1)).toList:=hm1
       rw [← intsN_repl] at hm1
       have hfa:=fillN_all ws k
       rw [HWN.out] at hfa
       rw [← hfa] at hm1
       have HR4:=Lib.hid hm1
       have HX4:=Lib.hid X4
       have hKq:wq.heap.size ≤ K7:=by omega
       clear hm1 hm2 X4 hfa
       go_wp2_with fail
       clear hK7
       go_loopw [15,16] (fun lv zv wr => ∃ (j l:Nat) (z:Int),j ≤ i ∧ zv=.int .i64 z ∧ z=(j:Int) - 1 ∧ lv=.int .i64 (l:Int) ∧ l ≤ k ∧ Hid (l=k / prodL (ws.drop j)) ∧ Hid (wr.ownsRow K7 3 1 (.slice (some ⟨K7,0,none⟩) i i) i ((intsN (fillN ws k j)).map (Value.int .i64))) ∧ Ext wq wr) (fun _ zv _ => (intOf zv + 1).toNat)
       case atStart =>
        refine ⟨i,k,(i:Int) - 1,Nat.le_refl _,by first | rfl | go_num,rfl,rfl,Nat.le_refl _,?_,HR4,HX4.out⟩
        show _=_
        rw [← HWN.out,List.drop_length]
        exact (Nat.div_one k).symm
       case round =>
        clear HR4 HX4
        obtain ⟨j,l,z,hj,rfl,hz,rfl,hlk,HLQ,HR,X5⟩:=hrel
        obtain ⟨wz,rfl⟩:∃ wz:World,wz=wr:=⟨_,rfl⟩
        by_cases hz0:0 ≤ z
        · obtain ⟨j',rfl⟩:∃ j',j=j' + 1:=⟨j - 1,by omega⟩
          obtain rfl:z=(j':Int):=by omega
          clear hz
          obtain ⟨q,q1,_,_⟩:=get_lt (xs:=I) (k:=j') (by rw [HNI.out]; omega)
          obtain ⟨ib,ioff,rfl,i0⟩:=(HA.out.ext ((HXA.out.trans X).trans X5)).at q1
          have i0:wz.cell? ⟨ib,ioff + j',none⟩=some (.int .i64 q):=i0
          have hji:(j':Int) < (i:Int):=by omega
          have hx6:=HWL.out q
          have hx0:=HIP.out q (List.mem_of_getElem? q1.out)
          have hgt:=HGT.out j' q q1.out
          have hfs:=fillN_step (n:=k) hgt
          have hls:=left_step (n:=k) hgt
          rw [← HLQ.out] at hfs hls
          have HWX:=Lib.hid (HWD.out q)
          obtain ⟨x,hx⟩:∃ x,widthT T p q=x:=⟨_,rfl⟩
          rw [hx] at hx6 hx0 hfs hls HWX
          obtain ⟨r,hr⟩:∃ r,l % x=r:=⟨_,rfl⟩
          obtain ⟨d,hd⟩:∃ d,l / x=d:=⟨_,rfl⟩
          have hrx:r < x:=by rw [← hr]; exact Nat.mod_lt _ hx0
          have hdl:d ≤ l:=by rw [← hd]; exact Nat.div_le_self _ _
          have HEM:Hid ((l:Int).tmod (x:Int)=(r:Int)):=by show _=_; rw [← hr]; exact (Int.ofNat_tmod l x).symm
          have HED:Hid ((l:Int).tdiv (x:Int)=(d:Int)):=by show _=_; rw [← hd]; exact (Int.ofNat_tdiv l x).symm
          rw [hr] at hfs
          rw [hd] at hls
          have HFS:=Lib.hid hfs
          have HLS:=Lib.hid hls
          have hfl:(fillN ws k (j' + 1)).length=i:=by rw [fillN_len ws k (by rw [HWN.out]; exact hj),HWN.out]
          obtain ⟨y0,hy0⟩:∃ y0,((intsN (fillN ws k (j' + 1))).map (Value.int .i64))[j']?=some y0:=⟨_,List.getElem?_eq_getElem (by unfold intsN; rw [List.length_map,List.length_map,hfl]; omega)⟩
          have HY0:=Lib.hid hy0
          clear q1 hgt hx hr hd hfs hls hfl hy0 HLQ
          go_wp2_with fail
          refine (HWX.out _ (HX2.out.trans ((HXA.out.trans X).trans X5))).mono ?_
          rintro e w6 ⟨rfl,X6⟩
          have ho:=own_ext HR.out X6
          have hst:=ho.stored j' (.int .i64 (r:Int))
          have fr:=ho.frozenAt j'
          have c9:=ho.cells (g:=K7) rfl j' _ HY0.out
          rw [Addr.add_lit,Nat.zero_add] at c9
          rw [intsN_set,HFS.out] at hst
          obtain ⟨W7,hW7⟩:∃ W7,w6.setCell ⟨K7,j',none⟩ (.int .i64 (r:Int))=W7:=⟨_,rfl⟩
          rw [hW7] at hst
          have HRN:=Lib.hid hst.1
          have HXN:=Lib.hid ((X5.trans X6).grown hst.2 hKq)
          have b00:(0:Int) ≤ (j':Int):=by omega
          have emd:=HEM.out
          have edv:=HED.out
          have bx0:¬ (x:Int)=0:=by omega
          have bx1:((x:Int) == 0)=false:=by rw [beq_eq_false_iff_ne]; exact bx0
          clear ho hst HR HY0 X5 X6 i0 HWX
          go_wp2_with fail
          go_roundw
          case rel => exact ⟨j',d,(j':Int) - 1,by omega,by first | rfl | go_num,rfl,rfl,by omega,by show _=_; exact HLS.out,HRN,HXN.out⟩
          case measure => simp [intOf] <;> omega
        · have hj0:j=0:=by omega
          subst hj0
          have hz1:z=-1:=by omega
          subst hz1
          have hrw:=HR.out
          rw [fillN_zero] at hrw
          have hrow:Row wz (.slice (some ⟨K7,0,none⟩) i i) ((intsN (pureN ws k)).map (Value.int .i64)):=own_row hrw (by omega)
          have HOZ:=Lib.hid (HO.out.ext X5)
          have HRW:Hid (RowX u12.ownBlock wz (.slice (some ⟨K7,0,none⟩) i i) ((intsN (pureN ws k)).map (Value.int .i64))):=⟨hrow,.inr (fun e => by
           have:=(HO.out.lt K7 e.symm).2
           omega)⟩
          have HXZ:=Lib.hid (X.trans X5)
          have hll:=HLL.out
          have hl1:L.length + 1 ≤ 17592186044416:=by omega
          have hl2:(L.length + 1) * 24 ≤ 140737488355328:=by omega
          have hbk:w8.heap.size ≤ wz.heap.size:=HXZ.out.size
          have HLM:=Lib.hid HL.out
          clear hz0 hz hrw hrow HR HO HL X X5 HLQ hlk
          go_wp2_with (at_builtin; go_must (refine wp_app1 rfl rfl ei_ri HOZ.out.row rfl rfl (by simp) rfl hl1 hl2 hbk ?_); intro v' w' hown hgrew)
          have HCO:=Lib.hid (HOZ.out.grew (p:=(intsN (pureN ws k),.slice (some ⟨K7,0,none⟩) i i)) hown hgrew HRW.out)
          have HXX:=Lib.hid (hgrew.extNew HXZ.out HOZ.out.row (Nat.le_refl _))
          have HLN:Hid ((L ++ [(intsN (pureN ws k),Value.slice (some ⟨K7,0,none⟩) i i)]).map (·.1)=pursL ws (k + 1)):=by
           show _=_
           rw [List.map_append,HLM.out,pursL_succ]
           rfl
          clear hown hgrew
          go_roundw
          case rel => exact ⟨k + 1,_,by omega,by go_num,HLN,by show _=_; rw [List.length_append,hll]; rfl,HCO,HXX.out⟩
          case measure => simp [intOf] <;> omega
     · have hke:k=m:=by omega
       subst hke
       have hge2:¬ (k:Int) < (k:Int):=by omega
       have hrr:=HO.out.toRows (by rw [HLL.out]; omega)
       rw [HL.out,HMP.out] at hrr
       have HRR:=Lib.hid hrr
       have HXF:=Lib.hid (HX2.out.trans (HXA.out.trans X))
       clear hlt hrr HL HO X
       go_wp2_with fail
       go_ret2
       refine ⟨_,rfl,?_⟩
       unfold PurPost
       rw [HWS.out]
       exact ⟨HXF.out,.inr ⟨HFW.out,_,rfl,HRR.out⟩⟩
theorem mixP_len (f:List Nat → Rat):∀ P,(mixP f P).length ≤ P.length
 | [] => Nat.le_refl _
 | l :: t => by
   rw [mixP]
   have:=mixP_len f t
   split
   · rw [List.length_cons]; omega
   · rw [List.length_cons,List.length_cons]; omega
set_option maxHeartbeats 1600000 in
set_option maxRecDepth 100000 in
theorem pures1_any (u v:Value) (xs:List Int) (w:World) (hu:Ints w u xs) (hv:Ints w v xs) :
 Calls Tryz.prog 39 #[u,v] w fun e w' => e=.returned (.bool true) ∧ Ext w w':=by
 have HC:=Lib.hid (equal_ints u v xs xs w hu hv true (by show _=_; simp))
 obtain ⟨ao,c,rfl,hlen,hc⟩:=hu.open
 obtain ⟨bo,d,rfl,hlen2,hd⟩:=hv.open
 clear hc hd hu hv
 go_enter Tryz.func39,Tryz.ntmps39
 go_wp2_with fail
 refine HC.out.mono ?_
 rintro e w2 ⟨rfl,X2⟩
 go_wp2_with fail
 go_ret
 exact ⟨rfl,X2⟩
set_option maxHeartbeats 1600000 in
set_option maxRecDepth 100000 in
theorem equalFn_rows (u v:Value) (m:List (List Int)) (w:World) (hu:Rows (Value.int .i64) w u m) (hv:Rows (Value.int .i64) w v m) :
 Calls Tryz.prog 38 #[u,v,.func (.func 39) #[] #[]] w fun e w' => e=.returned (.bool true) ∧ Ext w w':=by
 obtain ⟨us,hr,hul,hel⟩:=hu
 obtain ⟨ao,c,rfl,_,hlen,_,hc⟩:=hr
 obtain ⟨ys,hr2,hul2,hel2⟩:=hv
 obtain ⟨bo,d,rfl,_,hlen2,_,hc2⟩:=hr2
 have HC:=Lib.hid hc
 have HEL:=Lib.hid hel
 have HC2:=Lib.hid hc2
 have HEL2:=Lib.hid hel2
 obtain ⟨n,hn⟩:∃ n,us.length=n:=⟨_,rfl⟩
 have hn2:ys.length=n:=by omega
 have HN:=Lib.hid hn
 have HN2:=Lib.hid hn2
 have HM:=Lib.hid (show m.length=n by omega)
 have hnb:n ≤ 17592186044416:=by omega
 rw [hn,hn2]
 clear hc hc2 hel hel2 hlen hlen2 hn hn2 hul hul2
 go_enter Tryz.func38,Tryz.ntmps38
 go_wp2_with fail
 go_loopw [17] (fun i wr => ∃ k:Nat,k ≤ n ∧ i=.int .i64 k ∧ Ext w wr) (fun i _ => n - (intOf i).toNat)
 case atStart => exact ⟨0,Nat.zero_le _,rfl,Ext.refl _⟩
 case round =>
  obtain ⟨k,hk,rfl,X⟩:=hrel
  by_cases hlt:k < n
  · obtain ⟨x,h1,_,_⟩:=get_lt (xs:=us) (k:=k) (by rw [HN.out]; exact hlt)
    obtain ⟨y,h2,_,_⟩:=get_lt (xs:=ys) (k:=k) (by rw [HN2.out]; exact hlt)
    obtain ⟨r,h3,_,_⟩:=get_lt (xs:=m) (k:=k) (by rw [HM.out]; exact hlt)
    obtain ⟨b,off,rfl,hc0⟩:=HC.out.ext X k x h1.out
    have hcell:wr.cell? ⟨b,off + k,none⟩=some x:=hc0
    obtain ⟨b2,off2,rfl,hc1⟩:=HC2.out.ext X k y h2.out
    have hcell2:wr.cell? ⟨b2,off2 + k,none⟩=some y:=hc1
    have HS:=Lib.hid (pures1_any x y r wr ((HEL.out k x r h1.out h3.out).ext X) ((HEL2.out k y r h2.out h3.out).ext X))
    obtain ⟨ao3,c3,rfl,_,_⟩:=(HEL.out k x r h1.out h3.out).open
    obtain ⟨ao4,c4,rfl,_,_⟩:=(HEL2.out k y r h2.out h3.out).open
    have hki:(k:Int) < (n:Int):=by omega
    clear hc0 hc1 hlt
    go_wp2_with fail
    refine HS.out.mono ?_
    rintro e w2 ⟨rfl,X2⟩
    go_wp2_with fail
    go_roundw
    case rel => exact ⟨k + 1,by omega,by go_num,X.trans X2⟩
    case measure => simp [intOf]; omega
  · have hki:(n:Int) ≤ (k:Int):=by omega
    clear hlt
    go_wp2_with fail
    go_ret
    exact ⟨rfl,X⟩
theorem mixP_at {f:List Nat → Rat} {P:List (List Nat)} {j:Nat} {l:List Nat} (h:P[j]?=some l) (hf:f l ≠ 0):(mixP f P)[(mixP f (P.take j)).length]?=some (intsN l,(outF (f l)).1):=by
 obtain ⟨h1,h2⟩:=List.getElem?_eq_some_iff.1 h
 have hP:P.take j ++ l :: P.drop (j + 1)=P:=by rw [← h2,← List.drop_eq_getElem_cons h1,List.take_append_drop]
 have e:mixP f P=mixP f (P.take j) ++ mixP f (l :: P.drop (j + 1)):=by rw [← mixP_app,hP]
 rw [e,List.getElem?_append_right (Nat.le_refl _),Nat.sub_self,mixP,if_neg hf]
 rfl
theorem mixF_small {f:List Nat → Rat}:∀ {P:List (List Nat)},(∀ l ∈ P,(outF (f l)).2=0) → mixF f P=0
 | [],_ => rfl
 | l :: t,h => by
   rw [mixF,mixF_small (fun x hx => h x (List.mem_cons_of_mem _ hx)),h l (List.mem_cons_self ..)]
   simp
theorem wgt_small {T:List Nd} {p:Int} {S:List Ch} (hS:strategyE T p S=0) (ht:tameB S=true) (l:List Nat) (k:Nat):RB (12 * k + 1) (wgtM (S.map fun x => x.2.map ratOf) l k) :=
 wgtM_RB (by omega) (fun r hr q hq => by
  obtain ⟨x,hx,rfl⟩:=List.mem_map.1 hr
  obtain ⟨s,hs,rfl⟩:=List.mem_map.1 hq
  exact ratOf_RB (oddsE_ok ((strE_zero hS).2 x hx).2 s hs) (tame_small ht x hx s hs) (by omega)) l k
end Go.Proofs.YtcggohkbmhdohaaGreatDoor
