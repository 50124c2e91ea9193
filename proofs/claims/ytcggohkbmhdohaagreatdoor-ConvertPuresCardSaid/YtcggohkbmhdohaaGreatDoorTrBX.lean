/- texts merged: TrBA TrBB TrBC TrBD -/
import Derived.Test.YtcggohkbmhdohaaGreatDoorTrQX
import Derived.Test.YtcggohkbmhdohaaGreatDoorRtK
import Derived.Test.YtcggohkbmhdohaaGreatDoorTrYX
import Derived.Test.YtcggohkbmhdohaaGreatDoorNatI
import Derived.Test.YtcggohkbmhdohaaGreatDoorRatAL
import Derived.BigQuiet
namespace Go.Proofs.YtcggohkbmhdohaaGreatDoor
open Go.RowKit
set_option linter.unusedVariables false
set_option maxRecDepth 100000 in
theorem mildClo_any (s:ByteArray) (w:World) (hs:s.size ≤ 9223372036854775806) :
 Calls Tryz.prog 47 #[.string s] w fun e w' => e=.returned (.bool (decide (12 < s.size))) ∧ Ext w w':=by
 obtain ⟨n,hn⟩:∃ n,s.size=n:=⟨_,rfl⟩
 by_cases h:12 < n
 · have hd:decide (12 < s.size)=true:=by rw [hn]; exact decide_eq_true h
   have hb:(12:Int) < (n:Int):=by omega
   rw [hd]
   clear hd
   go_enter Tryz.func47,Tryz.ntmps47
   go_wp2_with fail
   go_ret
   exact ⟨rfl,Ext.refl _⟩
 · have hd:decide (12 < s.size)=false:=by rw [hn]; exact decide_eq_false h
   have hb:¬ (12:Int) < (n:Int):=by omega
   rw [hd]
   clear hd
   go_enter Tryz.func47,Tryz.ntmps47
   go_wp2_with fail
   go_ret
   exact ⟨rfl,Ext.refl _⟩
def bulkB (l:List ByteArray):Bool:=l.any fun s => decide (12 < s.size)
def smallB (x:Nd):Bool:=!(decide (12 < x.pay.size)) && !(bulkB x.odds)
def mildB (T:List Nd):Bool:=T.all smallB && decide (T.length ≤ 40)
set_option maxHeartbeats 3200000 in
set_option maxRecDepth 100000 in
theorem mild_any (v:Value) (T:List Nd) (w:World) (hv:TreeIn w v T) (hz:TreeSz T) :
 Calls Tryz.prog 10 #[v] w fun e w' => e=.returned (.bool (mildB T)) ∧ Ext w w':=by
 obtain ⟨wo,rfl⟩:∃ wo:World,wo=w:=⟨_,rfl⟩
 obtain ⟨ao,c,rfl,hlen,hn⟩:=hv.open
 have HN:=Lib.hid hn
 have HZ:=Lib.hid hz
 obtain ⟨Q,hQ⟩:∃ Q,mildB T=Q:=⟨_,rfl⟩
 have HQ:=Lib.hid hQ
 rw [hQ]
 clear hn hv hQ hz
 go_enter Tryz.func10,Tryz.ntmps10
 go_wp2_with fail
 go_loopw [7] (fun iv wr => ∃ (i:Nat),i ≤ T.length ∧ iv=.int .i64 i ∧ Hid (((T.drop i).all smallB && decide (T.length ≤ 40))=Q) ∧ Ext wo wr) (fun iv _ => T.length - (intOf iv).toNat)
 case atStart => exact ⟨0,Nat.zero_le _,rfl,HQ.out,Ext.refl _⟩
 case round =>
  obtain ⟨i,hi,rfl,HE,X⟩:=hrel
  by_cases hlt:i < T.length
  · obtain ⟨x,d1,d2,d3⟩:=get_lt hlt
    obtain ⟨b,off,no,nc,oo,oc,rfl,c0,c1,c2,c3,c4,c5,_,ho,_⟩:=HN.out.at d1
    have c0:=X.cell c0
    have c1:=X.cell c1
    have c2:=X.cell c2
    have c3:=X.cell c3
    have c4:=X.cell c4
    have c5:=X.cell c5
    have hii:(i:Int) < (T.length:Int):=by omega
    have hE:=HE.out
    rw [d2.out,List.all_cons] at hE
    obtain ⟨hz1,hz2⟩:=HZ.out x (List.mem_of_getElem? d1.out)
    have HZ2:=Lib.hid hz2
    have HOS:=Lib.hid ho
    obtain ⟨kx,hkx⟩:∃ kx,x.kind=kx:=⟨_,rfl⟩
    obtain ⟨px,hpx⟩:∃ px,x.player=px:=⟨_,rfl⟩
    obtain ⟨qx,hqx⟩:∃ qx,x.info=qx:=⟨_,rfl⟩
    obtain ⟨nx,hnx⟩:∃ nx,x.next.length=nx:=⟨_,rfl⟩
    obtain ⟨ox,hox⟩:∃ ox,x.odds.length=ox:=⟨_,rfl⟩
    obtain ⟨yx,hyx⟩:∃ yx,x.pay=yx:=⟨_,rfl⟩
    obtain ⟨os,hos⟩:∃ os,x.odds=os:=⟨_,rfl⟩
    unfold smallB at hE
    rw [hkx] at c0
    rw [hpx] at c1
    rw [hqx] at c2
    rw [hnx] at c3
    rw [hox] at c4 HOS
    rw [hyx] at c5 hE hz1
    rw [hos] at HOS HZ2 hE
    obtain ⟨T7,hT7⟩:∃ T7,wr.heap.size=T7:=⟨_,rfl⟩
    obtain ⟨W1,hW1⟩:∃ W1,wr.alloc (.cells #[.int .i64 kx,.int .i64 px,.int .i64 qx,.slice no nx nc,.slice oo ox oc,.string yx] 79)=W1:=⟨_,rfl⟩
    have X1:Ext wr W1:=by rw [← hW1]; exact (Ext.refl wr).alloc _
    have y0:W1.cell? ⟨T7,4,none⟩=some (.slice oo ox oc):=by rw [← hW1,← hT7]; simp [go_sem]
    have y1:W1.cell? ⟨T7,5,none⟩=some (.string yx):=by rw [← hW1,← hT7]; simp [go_sem]
    have HX1:=Lib.hid (X.trans X1)
    have HCF:=Lib.hid (fun W (hX:Ext wo W) => containsFunc_rats (.slice oo ox oc) (os.map Value.string) (os.map fun s => decide (12 < s.size)) 47 #[] W (HOS.out.ext hX) (by rw [List.length_map,List.length_map]) (fun _ _ => by kernel_rfl)
     (fun j u q W2 hu hq h2 => by
       rw [List.getElem?_map] at hu hq
       cases hy:os[j]? with
       | none => rw [hy] at hu; cases hu
       | some y =>
         rw [hy] at hu hq
         simp only [Option.map_some,Option.some.injEq] at hu hq
         subst hu; subst hq
         exact mildClo_any y W2 (HZ2.out y (List.mem_of_getElem? hy)))
     (bulkB os) (by show _=_; rw [List.any_map]; rfl))
    obtain ⟨py,hpy⟩:∃ py,yx.size=py:=⟨_,rfl⟩
    obtain ⟨B,hB⟩:∃ B,bulkB os=B:=⟨_,rfl⟩
    rw [hpy] at hE hz1
    rw [hB] at hE HCF
    clear d1 d2 d3 hkx hpx hqx hnx hox hyx hos X1 HE hB HZ2 HOS ho hz2
    by_cases a1:12 < py
    · have hq:Q=false:=by rw [← hE,decide_eq_true a1]; rfl
      subst hq
      have hb:(12:Int) < (py:Int):=by omega
      clear hE a1 hlt HCF
      go_wp2_with fail
      go_ret
      exact ⟨rfl,HX1.out⟩
    · have hb:¬ (12:Int) < (py:Int):=by omega
      rw [decide_eq_false a1] at hE
      cases B with
      | true =>
        have hq:Q=false:=by rw [← hE]; rfl
        subst hq
        clear hE a1 hlt
        go_wp2_with fail
        refine (HCF.out _ HX1.out).mono ?_
        rintro e w5 ⟨rfl,X5⟩
        go_wp2_with fail
        go_ret
        exact ⟨rfl,HX1.out.trans X5⟩
      | false =>
        have HE:=Lib.hid hE
        clear hE a1 hlt
        go_wp2_with fail
        refine (HCF.out _ HX1.out).mono ?_
        rintro e w5 ⟨rfl,X5⟩
        go_wp2_with fail
        go_roundw
        case rel => exact ⟨i + 1,by omega,by go_num,by show _=_; rw [← HE.out]; rfl,HX1.out.trans X5⟩
        case measure => simp [intOf]; omega
  · have hie:i=T.length:=by omega
    subst hie
    have hE:=HE.out
    rw [List.drop_length,List.all_nil,Bool.true_and] at hE
    have hge:¬ (T.length:Int) < (T.length:Int):=by omega
    subst hE
    clear HE HQ hlt
    go_wp2_with fail
    go_ret
    exact ⟨ret_bool (by simp only [decide_eq_decide]; omega),X⟩
structure FitS (T:List Nd) (p:Int) (S:List Ch):Prop where
 nd:(S.map (·.1)).Nodup
 ok:∀ c ∈ S,∀ s ∈ c.2,RatOk s
 wide:∀ c ∈ S,∀ x ∈ T,x.kind=2 → x.player=p → x.info=c.1 → x.next.length ≤ c.2.length
theorem strF_zero {W:Int → Nat}:∀ {I:List Int} {S:List Ch},strF W I S=0 → I.length=S.length → S.map (·.1)=I ∧ ∀ c ∈ S,c.2.length=W c.1 ∧ oddsE c.2=0
 | [],[],_,_ => ⟨rfl,fun c h => by cases h⟩
 | [],_ :: _,_,h => by cases h
 | _ :: _,[],_,h => by cases h
 | q :: I,c :: S,h,hl => by
   rw [strF] at h
   by_cases h1:c.1 ≠ q ∨ c.2.length ≠ W q
   · rw [if_pos h1] at h; cases h
   rw [if_neg h1] at h
   simp only [not_or,Classical.not_not] at h1
   by_cases h2:oddsE c.2=0
   · rw [if_neg (by simpa using h2)] at h
     obtain ⟨g1,g2⟩:=strF_zero h (by simpa using hl)
     refine ⟨by rw [List.map_cons,g1,h1.1],fun d hd => ?_⟩
     rcases List.mem_cons.1 hd with rfl | hd
     · exact ⟨by rw [h1.2,h1.1],h2⟩
     · exact g2 d hd
   · rw [if_pos h2] at h; exact absurd h h2
theorem infosT_nodup (T:List Nd) (p:Int):(infosT T p).Nodup:=by
 unfold infosT
 refine List.Nodup.sublist List.filter_sublist ?_
 show List.Pairwise _ _
 rw [List.pairwise_map]
 refine List.nodup_range.imp fun {a b} hab e => hab ?_
 exact Int.ofNat.inj e
theorem strE_zero {T:List Nd} {p:Int} {S:List Ch} (h:strategyE T p S=0):S.map (·.1)=infosT T p ∧ ∀ c ∈ S,c.2.length=widthT T p c.1 ∧ oddsE c.2=0:=by
 unfold strategyE at h
 by_cases hl:(infosT T p).length=S.length
 · rw [if_neg (by simpa using hl)] at h
   exact strF_zero h hl
 · rw [if_pos hl] at h; cases h
theorem widthT_of {T:List Nd} (hT:Valid T) {x:Nd} (hx:x ∈ T) {p q:Int} (hm:isMove x p q=true):widthT T p q=x.next.length:=by
 unfold widthT
 cases hf:T.find? (fun x => isMove x p q) with
 | none => exact absurd hm (by simpa using List.find?_eq_none.1 hf x hx)
 | some y =>
   dsimp only
   have hy:=List.find?_some hf
   have hym:=List.mem_of_find?_eq_some hf
   obtain ⟨a1,a2,a3⟩:=isMove_iff.1 hm
   obtain ⟨b1,b2,b3⟩:=isMove_iff.1 (show isMove y p q=true from hy)
   exact hT.wide y hym x hx b1 a1 (b2.trans a2.symm) (b3.trans a3.symm)
theorem fit_of {T:List Nd} (hT:Valid T) {p:Int} {S:List Ch} (h:strategyE T p S=0):FitS T p S:=by
 obtain ⟨h1,h2⟩:=strE_zero h
 refine ⟨by rw [h1]; exact infosT_nodup T p,fun c hc => oddsE_ok (h2 c hc).2,fun c hc x hx k1 k2 k3 => ?_⟩
 rw [(h2 c hc).1,widthT_of hT hx (isMove_iff.2 ⟨k1,k2,k3⟩)]
 exact Nat.le_refl _
theorem FitS.take {T:List Nd} {p:Int} {S:List Ch} (h:FitS T p S) (j:Nat):FitS T p (S.take j) :=
 ⟨by rw [List.map_take]; exact h.nd.sublist (List.take_sublist _ _),fun c hc => h.ok c (List.mem_of_mem_take hc),fun c hc => h.wide c (List.mem_of_mem_take hc)⟩
theorem pick_none {q:Int} {c:Nat}:∀ {S:List Ch} {a:Rat},(∀ s ∈ S,s.1 ≠ q) → pickP S q c a=a
 | [],_,_ => rfl
 | s :: t,a,h => by
   show pickP t q c (if s.1=q then _ else a)=a
   rw [if_neg (h s (List.mem_cons_self ..))]
   exact pick_none fun x hx => h x (List.mem_cons_of_mem _ hx)
theorem odd_RB {os:List ByteArray} (h:∀ s ∈ os,RatOk s) (c:Nat):RB 2000 (((os[c]?).map ratOf).getD 1):=by
 cases hc:os[c]? with
 | none => exact RB_1.mono (by omega)
 | some s => exact ratOf_RB2k (h s (List.mem_of_getElem? hc))
theorem pick_RB {q:Int} {c m:Nat}:∀ {S:List Ch} {a:Rat},(S.map (·.1)).Nodup → (∀ c ∈ S,∀ s ∈ c.2,RatOk s) → RB m a → RB (m + 2000) (pickP S q c a)
 | [],a,_,_,ha => ha.mono (by omega)
 | s :: t,a,hn,ho,ha => by
   rw [List.map_cons,List.nodup_cons] at hn
   show RB _ (pickP t q c (if s.1=q then _ else a))
   by_cases h:s.1=q
   · rw [if_pos h,pick_none fun x hx e => hn.1 (by rw [h,← e]; exact List.mem_map_of_mem hx)]
     exact RB_mul ha (odd_RB (ho s (List.mem_cons_self ..)) c)
   · rw [if_neg h]
     exact pick_RB hn.2 (fun x hx => ho x (List.mem_cons_of_mem _ hx)) ha
def givG (g0 g1:Bool) (S0 S1:List Ch) (p:Int):Option (List Ch):=if p=0 then (if g0=true then some S0 else none) else if p=1 then (if g1=true then some S1 else none) else none
theorem facP_RB {T:List Nd} (hT:Valid T) {G:Int → Option (List Ch)} (hG:∀ p S,G p=some S → FitS T p S) {m:Nat} {a:Rat} (ha:RB m a) (s:Nat × Nat):RB (m + 2000) (facP T G a s):=by
 unfold facP
 cases hx:T[s.1]? with
 | none => exact ha.mono (by omega)
 | some x =>
   dsimp only
   by_cases k1:x.kind=1
   · rw [if_pos k1]
     exact RB_mul ha (odd_RB (odds_ok hT hx) s.2)
   · rw [if_neg k1]
     by_cases k2:x.kind=2
     · rw [if_pos k2]
       cases hg:G x.player with
       | none => exact ha.mono (by omega)
       | some S => exact pick_RB (hG _ S hg).nd (hG _ S hg).ok ha
     · rw [if_neg k2]; exact ha.mono (by omega)
theorem fold_RB {T:List Nd} (hT:Valid T) {G:Int → Option (List Ch)} (hG:∀ p S,G p=some S → FitS T p S):∀ (l:List (Nat × Nat)) (m:Nat) (a:Rat),RB m a → RB (m + 2000 * l.length) (l.foldl (facP T G) a)
 | [],m,a,ha => ha
 | s :: t,m,a,ha => by
   rw [List.foldl_cons,List.length_cons]
   exact (fold_RB hT hG t _ _ (facP_RB hT hG ha s)).mono (by omega)
theorem chance_RB {T:List Nd} (hT:Valid T) {G:Int → Option (List Ch)} (hG:∀ p S,G p=some S → FitS T p S) {k:Nat} (hk:k < T.length):RB 240001 (chanceT T G k):=by
 have h1:=path_len hT k k (Nat.le_refl _) hk
 have h2:=hT.len
 exact (fold_RB hT hG (path T k) 1 1 RB_1).mono (by omega)
theorem givG_fit {T:List Nd} {g0 g1:Bool} {S0 S1:List Ch} (h0:g0=true → FitS T 0 S0) (h1:g1=true → FitS T 1 S1):∀ p S,givG g0 g1 S0 S1 p=some S → FitS T p S:=fun p S h => by
 unfold givG at h
 by_cases hp:p=0
 · rw [if_pos hp] at h
   by_cases hg:g0=true
   · rw [if_pos hg] at h
     rw [hp,← Option.some.inj h]; exact h0 hg
   · rw [if_neg hg] at h; cases h
 · rw [if_neg hp] at h
   by_cases hp1:p=1
   · rw [if_pos hp1] at h
     by_cases hg:g1=true
     · rw [if_pos hg] at h
       rw [hp1,← Option.some.inj h]; exact h1 hg
     · rw [if_neg hg] at h; cases h
   · rw [if_neg hp1] at h; cases h
theorem mild_small {T:List Nd} (h:mildB T=true):T.length ≤ 40 ∧ ∀ x ∈ T,x.pay.size ≤ 12 ∧ ∀ s ∈ x.odds,s.size ≤ 12:=by
 unfold mildB at h
 rw [Bool.and_eq_true,decide_eq_true_eq,List.all_eq_true] at h
 refine ⟨h.2,fun x hx => ?_⟩
 have h1:=h.1 x hx
 unfold smallB bulkB at h1
 simp only [Bool.and_eq_true,Bool.not_eq_true',decide_eq_false_iff_not,List.any_eq_false,decide_eq_true_eq] at h1
 exact ⟨by omega,fun s hs => by have:=h1.2 s hs; omega⟩
theorem setsP_snd {T:List Nd} (hv:Valid T) (p:Int):(setsP T p).map (·.2)=(infosT T p).map fun q => (widthT T p q:Int):=by
 rw [← setsP_valid hv p]
 unfold setsP
 rw [List.map_map,List.map_map,List.map_map]
 rfl
end Go.Proofs.YtcggohkbmhdohaaGreatDoor
