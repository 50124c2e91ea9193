/- texts merged: RpT RpU RpV -/
import Derived.Test.YtcggohkbmhdohaaGreatDoorRpI
import Derived.Test.YtcggohkbmhdohaaGreatDoorRpPR
namespace Go.Proofs.YtcggohkbmhdohaaGreatDoor
open Go.RowKit
set_option linter.unusedVariables false
theorem info_ri:(Tryz.prog.info? 51).map (fun i => (i.zero,i.size,i.bytes))=some (some (.slice none 0 0),1,24):=by kernel_rfl
theorem ei_ri:EI Tryz.prog 48 51 (.slice none 0 0) 1 24:=⟨Tryz.underlying48,info_parts info_ri,rfl,by decide⟩
structure RO (w:World) (B:Nat) (v:Value) (L:List (List Int × Value)):Prop where
 row:w.ownsRow B 51 1 v L.length (L.map (·.2))
 rd:∀ p ∈ L,RowX v.ownBlock w p.2 (p.1.map (Value.int .i64))
theorem RO.nil (w:World) (B:Nat):RO w B (.slice none 0 0) []:=⟨World.ownsRow_nil _ _ _ _,fun p hp => by cases hp⟩
theorem RO.ext {w w':World} {B:Nat} {v:Value} {L:List (List Int × Value)} (h:RO w B v L) (hx:Ext w w'):RO w' B v L :=
 ⟨own_ext h.row hx,fun p hp => (h.rd p hp).ext hx⟩
theorem RO.grew {w w':World} {B:Nat} {v v':Value} {L:List (List Int × Value)} {p:List Int × Value} (h:RO w B v L) (ho:w'.ownsRow B 51 1 v' (L.length + 1) (L.map (·.2) ++ [p.2])) (hg:Grew w v w' v')
 (h1:RowX v.ownBlock w p.2 (p.1.map (Value.int .i64))):RO w' B v' (L ++ [p]):=by
 refine ⟨by rw [List.length_append,List.length_singleton,List.map_append]; exact ho,fun q hq => ?_⟩
 rcases List.mem_append.1 hq with h' | h'
 · exact hg.row (h.rd q h')
 · rw [List.mem_singleton.1 h']; exact hg.row h1
theorem RO.toRows {w:World} {B:Nat} {v:Value} {L:List (List Int × Value)} (h:RO w B v L) (hl:L.length ≤ 1000000):Rows (Value.int .i64) w v (L.map (·.1)):=by
 refine ⟨L.map (·.2),own_row h.row (by omega),by simp,fun i u xs hu hx => ?_⟩
 rw [List.getElem?_map] at hu hx
 obtain ⟨p,hp,rfl⟩:=Option.map_eq_some_iff.1 hu
 rw [hp] at hx
 cases hx
 exact (h.rd p (List.mem_of_getElem? hp)).1
theorem RO.lt {w:World} {B:Nat} {v:Value} {L:List (List Int × Value)} (h:RO w B v L):∀ k,v.ownBlock=some k → B ≤ k ∧ k < w.heap.size:=fun k hk => h.row.lt k hk
theorem widths_len (T:List Nd) (p:Int):(widthsT T p).length=(infosT T p).length:=by unfold widthsT; rw [List.length_map]
theorem widths_pos (T:List Nd) (p:Int):∀ w ∈ widthsT T p,0 < w:=fun w hw => by
 unfold widthsT at hw
 obtain ⟨q,hq,rfl⟩:=List.mem_map.1 hw
 exact info_pos hq
def pursL (ws:List Nat) (N:Nat):List (List Int):=(List.range N).map fun n => intsN (pureN ws n)
theorem rowT_take {w m k:Nat} (h:k < w):(rowT w m).take (k + 1)=(rowT w m).take k ++ [if k=m then ⟨#[49]⟩ else ⟨#[48]⟩]:=by
 rw [List.take_succ_eq_append_getElem (by rw [rowT_len]; exact h)]
 congr 2
 unfold rowT
 rw [List.getElem_map,List.getElem_range]
set_option maxHeartbeats 6400000 in
set_option maxRecDepth 100000 in
theorem rCertain_any (v c:Value) (T:List Nd) (p:Int) (l:List Nat) (w:World) (hv:TreeIn w v T) (hT:Valid T) (hc:Ints w c (intsN l)) (hl:l.length=(infosT T p).length) :
 Calls Tryz.prog 23 #[v,.int .i64 p,c] w fun e w' => ∃ u,e=.returned u ∧ StrIn w' u (certT T p (ofL (infosT T p) l)) ∧ Ext w w':=by
 have HIN:=Lib.hid (rInfos_any v T p w hv)
 have HWD:=Lib.hid (fun (q:Int) W (hX:Ext w W) => rWidth_any v T p q W (hv.ext hX))
 have HWL:=Lib.hid (fun (q:Int) => widthT_le hT p q)
 have hil:=infos_len T p
 have hnd:=infosT_nodup T p
 have HIP:Hid (∀ q ∈ infosT T p,0 < widthT T p q):=fun q hq => info_pos hq
 have HCT:=Lib.hid (fun (i:Nat) (q:Int) (h:(infosT T p)[i]?=some q) => certT_take (P:=ofL (infosT T p) l) h)
 have HOF:=Lib.hid (fun (i:Nat) (q:Int) (h:(infosT T p)[i]?=some q) => ofL_at hnd (l:=l) h)
 have hcl:(certT T p (ofL (infosT T p) l)).length=(infosT T p).length:=by unfold certT; rw [List.length_map]
 have HC0:=Lib.hid hc
 obtain ⟨vo,vc,rfl,_,_⟩:=hv.open
 obtain ⟨co,cc,rfl,_,hcc⟩:=hc.open
 have HCC:=Lib.hid hcc
 have hll0:(intsN l).length=l.length:=by unfold intsN; rw [List.length_map]
 rw [hll0]
 obtain ⟨P,hP⟩:∃ P,ofL (infosT T p) l=P:=⟨_,rfl⟩
 rw [hP] at HCT HOF hcl ⊢
 obtain ⟨C,hC⟩:∃ C,certT T p P=C:=⟨_,rfl⟩
 rw [hC] at HCT hcl ⊢
 obtain ⟨I,hI⟩:∃ I,infosT T p=I:=⟨_,rfl⟩
 rw [hI] at HIN HCT HOF hil hcl HIP hl
 obtain ⟨n,hn⟩:∃ n,I.length=n:=⟨_,rfl⟩
 rw [hn] at hil hcl hl
 have HNI:=Lib.hid hn
 have HCL:=Lib.hid hcl
 have HLN:=Lib.hid hl
 rw [hl]
 clear hv hT hc hcc hP hC hI hn hcl hnd hll0 hl HC0
 go_enter Tryz.func23,Tryz.ntmps23
 go_wp2_with fail
 refine HIN.out.mono ?_
 rintro e w2 ⟨u2,rfl,h2',X2⟩
 obtain ⟨lo,lc,rfl,_,hA⟩:=h2'.open
 rw [HNI.out]
 have HA:=Lib.hid hA
 have HX2:=Lib.hid X2
 clear h2' hA X2 HIN
 go_wp2_with fail
 go_loopw [7,16] (fun ov iv wr => ∃ (i:Nat) (L:List (Ch × Value)),i ≤ n ∧ iv=.int .i64 i ∧ Hid (L.map (·.1)=C.take i) ∧ Hid (L.length=i) ∧ Hid (CO wr w2.heap.size ov L) ∧ Ext w2 wr) (fun _ iv _ => n - (intOf iv).toNat)
 case atStart => exact ⟨0,[],Nat.zero_le _,rfl,rfl,rfl,CO.nil _ _,Ext.refl _⟩
 case round =>
  obtain ⟨i,L,hi,rfl,HL,HLL,HO,X⟩:=hrel
  have X2:=X
  obtain ⟨wq,rfl⟩:∃ wq:World,wq=wr:=⟨_,rfl⟩
  by_cases hlt:i < n
  · obtain ⟨q,q1,_,_⟩:=get_lt (xs:=I) (k:=i) (by rw [HNI.out]; exact hlt)
    obtain ⟨ib,ioff,rfl,i0⟩:=(HA.out.ext X).at q1
    have i0:wq.cell? ⟨ib,ioff + i,none⟩=some (.int .i64 q):=i0
    have hii:(i:Int) < (n:Int):=by omega
    have hx6:=HWL.out q
    have hx0:=HIP.out q (List.mem_of_getElem? q1.out)
    have HCI:=Lib.hid (HCT.out i q q1.out)
    have hpq:=HOF.out i q q1.out
    have HWX:=Lib.hid (HWD.out q)
    obtain ⟨x,hx⟩:∃ x,widthT T p q=x:=⟨_,rfl⟩
    rw [hx] at hx6 hx0 HCI HWX
    obtain ⟨mq,hmq⟩:∃ mq,P q=mq:=⟨_,rfl⟩
    rw [hmq] at HCI hpq
    have hil2:i < l.length:=by rw [HLN.out]; exact hlt
    have hci:l[i]?=some mq:=by rw [hpq,List.getD_eq_getElem?_getD,List.getElem?_eq_getElem hil2]; rfl
    obtain ⟨cb,coff,hcb,c0⟩:=((HCC.out.ext HX2.out).ext X).at (i:=i) (x:=(mq:Int)) (by show _=_; unfold intsN; rw [List.getElem?_map,hci]; rfl)
    subst hcb
    have HC0:Hid (∀ W,Ext wq W → W.cell? ⟨cb,coff + i,none⟩=some (.int .i64 (mq:Int))):=fun W hX => hX.cell c0
    obtain ⟨K9,hK9⟩:∃ K9,wq.heap.size=K9:=⟨_,rfl⟩
    have HX5:Hid (Ext wq (wq.alloc (.cells #[.int .i64 q,.slice none 0 0] 73))):=(Ext.refl wq).alloc _
    have HBX5:Hid ((wq.alloc (.cells #[.int .i64 q,.slice none 0 0] 73)).ownsRow K9 73 2 (.slice (some ⟨K9,0,none⟩) 1 1) 1 [.int .i64 q,.slice none 0 0]):=by
     show World.ownsRow _ _ _ _ _ _ _
     rw [← hK9]
     exact World.ownsRow_lit (base:=wq.heap.size) (e:=73) (size:=2) wq #[.int .i64 q,.slice none 0 0] 1 (Nat.le_refl _) (by unfold maxLen; omega) (by simp)
    have HTK:=Lib.hid (fun (k:Nat) (h:k < x) => rowT_take (m:=mq) h)
    clear hlt q1 hx hmq hpq hci c0
    go_wp2_with fail
    clear i0
    refine (HWX.out _ (HX2.out.trans (X.trans HX5.out))).mono ?_
    rintro e w6 ⟨rfl,X6⟩
    have HBX6:=Lib.hid (own_ext HBX5.out X6)
    have HX6:=Lib.hid (HX5.out.trans X6)
    have hs6:K9 + 1 ≤ w6.heap.size:=(HBX6.out.lt K9 rfl).2
    have hq9:wq.heap.size ≤ K9:=by omega
    clear X6 HX5 HBX5
    go_wp2_with fail
    clear hK9
    go_loopw [27] (fun kv wr => ∃ (k:Nat) (sv:Value),k ≤ x ∧ kv=.int .i64 k ∧ Hid (wr.ownsRow K9 73 2 (.slice (some ⟨K9,0,none⟩) 1 1) 1 [.int .i64 q,sv]) ∧ Hid (wr.ownsRow (K9 + 1) 28 1 sv k (((rowT x mq).take k).map Value.string)) ∧ Ext wq wr) (fun kv _ => x - (intOf kv).toNat)
    case atStart => exact ⟨0,.slice none 0 0,Nat.zero_le _,rfl,HBX6,World.ownsRow_nil _ _ _ _,HX6.out⟩
    case round =>
     clear HBX6 HX6
     obtain ⟨k,sv,hk,rfl,HBX,HST,X⟩:=hrel
     obtain ⟨wz,rfl⟩:∃ wz:World,wz=wr:=⟨_,rfl⟩
     have c0:=HBX.out.cells (g:=K9) rfl 0 _ rfl
     have c1:=HBX.out.cells (g:=K9) rfl 1 _ rfl
     rw [Addr.add_lit,Nat.zero_add] at c0 c1
     have HNE:Hid (Value.ownBlock (.slice (some ⟨K9,0,none⟩) 1 1) ≠ sv.ownBlock):=fun e => by
      have:=(HST.out.lt K9 e.symm).1
      omega
     have hk9:=(HBX.out.lt K9 rfl).2
     have hbk:K9 + 1 ≤ wz.heap.size:=by omega
     by_cases hlt:k < x
     · have hkk:(k:Int) < (x:Int):=by omega
       have p0:=HC0.out wz X
       have hl1:k + 1 ≤ 17592186044416:=by omega
       have hl2:(k + 1) * 16 ≤ 140737488355328:=by omega
       by_cases hkm:k=mq
       · have HKM:=Lib.hid hkm
         have hb1:((k:Int) == (mq:Int))=true:=by rw [hkm]; simp
         have hb2:decide ((k:Int)=(mq:Int))=true:=by rw [hkm]; simp
         clear hlt hkm
         go_wp2_with (at_builtin; go_must (refine wp_app1 rfl rfl ei_rats HST.out rfl rfl (by simp) rfl hl1 hl2 hbk ?_); intro v' w' hown hgrew; rcases hown.2 with ⟨_,h0⟩ | ⟨g',cap',cur',rfl,_⟩; exact absurd h0 (by omega); have hbx:=own_kept HBX.out hgrew.by' (.inl HNE.out); have fr:=hbx.frozenAt 1; have c9:=hbx.cells (g:=K9) rfl 1 sv rfl; rw [Addr.add_lit,Nat.zero_add] at c9; have hst:=hbx.stored 1 (.slice (some ⟨g',0,none⟩) (k + 1) cap'); obtain ⟨W7,hW7⟩:∃ W7,w'.setCell ⟨K9,1,none⟩ (.slice (some ⟨g',0,none⟩) (k + 1) cap')=W7:=⟨_,rfl⟩; rw [hW7] at hst; have HBN:Hid (W7.ownsRow K9 73 2 (.slice (some ⟨K9,0,none⟩) 1 1) 1 [.int .i64 q,(.slice (some ⟨g',0,none⟩) (k + 1) cap')]):=hst.1; have HOW:=Lib.hid hown; have HGB:=Lib.hid hst.2; have HXA:=Lib.hid (hgrew.ext X (fun k hk => Nat.le_trans (Nat.le_trans hq9 (Nat.le_succ _)) (HST.out.lt k hk).1)); clear hbx hown hgrew hst)
         have HXN:=Lib.hid (HXA.out.grown HGB.out hq9)
         have HSN:Hid (W7.ownsRow (K9 + 1) 28 1 (.slice (some ⟨g',0,none⟩) (k + 1) cap') (k + 1) (((rowT x mq).take (k + 1)).map Value.string)):=by
          show World.ownsRow _ _ _ _ _ _ _
          rw [HTK.out k (by omega),if_pos HKM.out,List.map_append]
          exact own_kept HOW.out HGB.out (.inl (fun e => by have:=(HOW.out.lt K9 e).1; omega))
         clear hW7 c9 fr X
         go_roundw
         case rel => exact ⟨k + 1,(.slice (some ⟨g',0,none⟩) (k + 1) cap'),by omega,by go_num,HBN,HSN,HXN.out⟩
         case measure => simp [intOf] <;> omega
       · have HKM:=Lib.hid hkm
         have hb1:((k:Int) == (mq:Int))=false:=by rw [beq_eq_false_iff_ne]; omega
         have hb2:decide ((k:Int)=(mq:Int))=false:=by rw [decide_eq_false_iff_not]; omega
         clear hlt hkm
         go_wp2_with (at_builtin; go_must (refine wp_app1 rfl rfl ei_rats HST.out rfl rfl (by simp) rfl hl1 hl2 hbk ?_); intro v' w' hown hgrew; rcases hown.2 with ⟨_,h0⟩ | ⟨g',cap',cur',rfl,_⟩; exact absurd h0 (by omega); have hbx:=own_kept HBX.out hgrew.by' (.inl HNE.out); have fr:=hbx.frozenAt 1; have c9:=hbx.cells (g:=K9) rfl 1 sv rfl; rw [Addr.add_lit,Nat.zero_add] at c9; have hst:=hbx.stored 1 (.slice (some ⟨g',0,none⟩) (k + 1) cap'); obtain ⟨W7,hW7⟩:∃ W7,w'.setCell ⟨K9,1,none⟩ (.slice (some ⟨g',0,none⟩) (k + 1) cap')=W7:=⟨_,rfl⟩; rw [hW7] at hst; have HBN:Hid (W7.ownsRow K9 73 2 (.slice (some ⟨K9,0,none⟩) 1 1) 1 [.int .i64 q,(.slice (some ⟨g',0,none⟩) (k + 1) cap')]):=hst.1; have HOW:=Lib.hid hown; have HGB:=Lib.hid hst.2; have HXA:=Lib.hid (hgrew.ext X (fun k hk => Nat.le_trans (Nat.le_trans hq9 (Nat.le_succ _)) (HST.out.lt k hk).1)); clear hbx hown hgrew hst)
         have HXN:=Lib.hid (HXA.out.grown HGB.out hq9)
         have HSN:Hid (W7.ownsRow (K9 + 1) 28 1 (.slice (some ⟨g',0,none⟩) (k + 1) cap') (k + 1) (((rowT x mq).take (k + 1)).map Value.string)):=by
          show World.ownsRow _ _ _ _ _ _ _
          rw [HTK.out k (by omega),if_neg HKM.out,List.map_append]
          exact own_kept HOW.out HGB.out (.inl (fun e => by have:=(HOW.out.lt K9 e).1; omega))
         clear hW7 c9 fr X
         go_roundw
         case rel => exact ⟨k + 1,(.slice (some ⟨g',0,none⟩) (k + 1) cap'),by omega,by go_num,HBN,HSN,HXN.out⟩
         case measure => simp [intOf] <;> omega
     · have hke:k=x:=by omega
       subst hke
       have hge:¬ (k:Int) < (k:Int):=by omega
       have hstr:=HST.out
       rw [show ((rowT k mq).take k)=rowT k mq from List.take_of_length_le (by rw [rowT_len]; exact Nat.le_refl _)] at hstr
       rcases hstr.2 with ⟨_,h0⟩ | ⟨g9,cap9,cur9,rfl,hg9,_⟩
       · exact absurd h0 (by omega)
       have hrow:Row wz (.slice (some ⟨g9,0,none⟩) k cap9) ((rowT k mq).map Value.string):=own_row hstr (by omega)
       have HOZ:=Lib.hid (HO.out.ext X)
       have HRW:Hid (RowX u7.ownBlock wz (.slice (some ⟨g9,0,none⟩) k cap9) ((rowT k mq).map Value.string)):=⟨hrow,.inr (fun e => by
        have:=(HO.out.lt g9 e.symm).2
        omega)⟩
       have HXZ:=Lib.hid (X2.trans X)
       have hll:=HLL.out
       have hl1:L.length + 1 ≤ 17592186044416:=by omega
       have hl2:(L.length + 1) * 32 ≤ 140737488355328:=by omega
       have hbk2:w2.heap.size ≤ wz.heap.size:=HXZ.out.size
       have HLM:=Lib.hid HL.out
       clear hlt hstr hrow hg9 HO HL X X2 HBX HST HNE
       go_wp2_with (first | (at_builtin; go_must (refine wp_app2 rfl rfl ei_tc HOZ.out.row rfl rfl (by simp) rfl rfl hl1 hl2 hbk2 ?_); intro v' w' hown hgrew))
       have HCO:=Lib.hid (HOZ.out.grew (p:=((q,rowT k mq),.slice (some ⟨g9,0,none⟩) k cap9)) hown hgrew HRW.out)
       have HXX:=Lib.hid (hgrew.extNew HXZ.out HOZ.out.row (Nat.le_refl _))
       have HLN2:Hid ((L ++ [((q,rowT k mq),Value.slice (some ⟨g9,0,none⟩) k cap9)]).map (·.1)=C.take (i + 1)):=by
        show _=_
        rw [List.map_append,HLM.out,HCI.out]
        rfl
       clear hown hgrew c0 c1
       go_roundw
       case rel => exact ⟨i + 1,_,by omega,by go_num,HLN2,by show _=_; rw [List.length_append,hll]; rfl,HCO,HXX.out⟩
       case measure => simp [intOf] <;> omega
  · have hie:i=n:=by omega
    subst hie
    have hge:¬ (i:Int) < (i:Int):=by omega
    have hfin:=HL.out
    rw [← HCL.out,List.take_length] at hfin
    have HIN:=HO.out.toIn (by rw [HLL.out]; omega)
    rw [hfin] at HIN
    have HIN:=Lib.hid HIN
    have HXE:=Lib.hid (HX2.out.trans X)
    clear hlt HL HO X hfin
    go_wp2_with fail
    go_ret
    exact ⟨_,rfl,HIN.out,HXE.out⟩
theorem box2_cells {w:World} {B g:Nat} {e:TypeId} {a b:Value} (h:w.ownsRow B e 2 (.slice (some ⟨g,0,none⟩) 1 1) 1 [a,b]) {j:Nat} {u:Value} (hc:w.cell? ⟨g,j,none⟩=some u):u=a ∨ u=b:=by
 rcases h.2 with ⟨e,_⟩ | ⟨g2,cap,cur,e,_,hg,_,_,hcs,ht⟩
 · simp at e
 · simp only [Value.slice.injEq,Option.some.injEq,Addr.mk.injEq,and_true,true_and] at e
   obtain ⟨rfl,rfl⟩:=e
   rw [cell_of_obj' hg] at hc
   have hl:cur.toList.length=2:=by simpa using hcs
   rw [List.take_of_length_le (by omega)] at ht
   have hm:u ∈ cur.toList:=by
    have:=(Array.getElem?_eq_some_iff.1 hc)
    obtain ⟨h1,rfl⟩:=this
    exact Array.mem_toList_iff.2 (Array.getElem_mem h1)
   rw [ht] at hm
   simpa using hm
theorem StrIn.apart {w w':World} {v:Value} {S:List Ch} (h:StrIn w v S) {K:Nat} (hb:∀ j u,w.cell? ⟨K,j,none⟩=some u → ∃ a n c,u=.slice a n c) (hk:∀ b off u,b ≠ K → w.cell? ⟨b,off,none⟩=some u → w'.cell? ⟨b,off,none⟩=some u):StrIn w' v S:=by
 obtain ⟨ao,c,h1,h2,h3,h4,h5⟩:=h
 refine ⟨ao,c,h1,h2,h3,h4,fun i x hx => ?_⟩
 obtain ⟨b,off,ov,e,k0,k1,k2⟩:=h5 i x hx
 have hbk:b ≠ K:=by
  rintro rfl
  obtain ⟨a,n,c,e2⟩:=hb _ _ k0
  cases e2
 refine ⟨b,off,ov,e,hk _ _ _ hbk k0,hk _ _ _ hbk k1,?_⟩
 obtain ⟨ao2,c2,g1,g2,g3,g4,g5⟩:=k2
 refine ⟨ao2,c2,g1,g2,g3,g4,fun j p hp => ?_⟩
 obtain ⟨b2,off2,e2,hc⟩:=g5 j p hp
 refine ⟨b2,off2,e2,hk _ _ _ ?_ hc⟩
 rintro rfl
 obtain ⟨a,n,c,e3⟩:=hb _ _ hc
 rw [List.getElem?_map] at hp
 obtain ⟨s,_,rfl⟩:=Option.map_eq_some_iff.1 hp
 cases e3
theorem cert_sz (T:List Nd) (p:Int) (P:Int → Nat):StrSz (certT T p P):=fun c hc s hs => by
 have:=cert_tame T p P c hc s hs
 omega
end Go.Proofs.YtcggohkbmhdohaaGreatDoor
