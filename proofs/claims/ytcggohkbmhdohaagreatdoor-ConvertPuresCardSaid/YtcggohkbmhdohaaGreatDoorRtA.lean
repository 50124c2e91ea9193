/- texts merged: Big15 RatA RatB RatC -/
import Derived.Test.YtcggohkbmhdohaaGreatDoorBig14
import Derived.Test.YtcggohkbmhdohaaGreatDoorNtAC
import Derived.Deep.RegionHeld3
namespace Go.Proofs.YtcggohkbmhdohaaGreatDoor
open Go.RowKit
set_option linter.unusedVariables false
theorem div_any (v u:Value) (n m:Nat) (w:World) (hv:NatV w v n) (hu:NatV w u m) (hm0:0 < m) (hl:(dig n).length ≤ 1073741823) :
 Calls Tryz.prog 149 #[v,u] w (DivPost n m w):=by
 by_cases h:n < m
 · exact div_lt v u n m w hv hu h
 · by_cases hm:m < 4294967296
   · exact div_small v u n m w hv hu hm0 hm (by omega)
   · have h1:1 < (dig m).length:=by
      rcases Nat.lt_or_ge 1 (dig m).length with h1 | h1
      · exact h1
      · exfalso
        have h2:=lt_dig_len m
        have h3:(4294967296:Nat) ^ (dig m).length ≤ 4294967296 ^ 1:=Nat.pow_le_pow_right (by omega) h1
        rw [Nat.pow_one] at h3
        omega
     exact div_big v u n m ((dig m).length - 2) w hv hu (by omega) (by omega) hl
set_option maxHeartbeats 1600000 in
set_option maxRecDepth 100000 in
theorem gcd_any (v u:Value) (n m:Nat) (w:World) (hv:NatV w v n) (hu:NatV w u m) (hl:(dig n).length ≤ 1073741823) (hl2:(dig m).length ≤ 1073741823) :
 Calls Tryz.prog 148 #[v,u] w fun e w' => ∃ r,e=.returned r ∧ NatV w' r (Nat.gcd n m) ∧ Ext w w':=by
 obtain ⟨wo,rfl⟩:∃ wo:World,wo=w:=⟨_,rfl⟩
 obtain ⟨F,hF⟩:∃ F,Nat.gcd n m=F:=⟨_,rfl⟩
 rw [hF]
 have HF:=Lib.hid hF
 have HV:=Lib.hid hv
 have HU:=Lib.hid hu
 clear hF hv hu
 go_enter Tryz.func148,Tryz.ntmps148
 go_wp2_with fail
 go_loopg [0,1] m (fun k nv mv wr => ∃ (a:Nat),NatV wr nv a ∧ NatV wr mv k ∧ (dig a).length ≤ 1073741823 ∧ (dig k).length ≤ 1073741823 ∧ Nat.gcd a k=F ∧ Ext wo wr)
 case atStart => exact ⟨n,HV.out,HU.out,hl,hl2,HF.out,Ext.refl _⟩
 case round =>
  obtain ⟨a,ha,hb,hla,hlk,hg,X⟩:=hrel
  have HG:=Lib.hid hg
  clear hg
  by_cases h0:gk=0
  · subst h0
    have hfa:Hid (F=a):=by show _=_; rw [← HG.out,Nat.gcd_zero_right]
    obtain ⟨bo,bc,rfl,_,_⟩:=hb.open
    have hz:(dig 0).length=0:=by rw [dig_zero]; rfl
    rw [hz]
    clear hz hb
    go_wp2_with fail
    go_ret
    exact ⟨_,rfl,by rw [hfa.out]; exact ha,X⟩
  · have HD:=Lib.hid (div_any _ _ a gk wr ha hb (by omega) hla)
    obtain ⟨bo,bc,rfl,_,_⟩:=hb.open
    have hd1:0 < (dig gk).length:=by
     rcases Nat.eq_zero_or_pos (dig gk).length with h | h
     · exact absurd (dig_nil_iff.1 (List.eq_nil_of_length_eq_zero h)) h0
     · exact h
    have hnext:Hid (Nat.gcd gk (a % gk)=F):=by show _=_; rw [← HG.out,Nat.gcd_comm a gk,Nat.gcd_rec gk a,Nat.gcd_comm]
    have hlt:Hid (a % gk < gk):=Nat.mod_lt _ (by omega)
    have hlr:Hid ((dig (a % gk)).length ≤ 1073741823):=Nat.le_trans (dig_len_le (Nat.mod_le _ _)) hla
    have HB1:=Lib.hid hb
    obtain ⟨lk,hlk2⟩:∃ lk,(dig gk).length=lk:=⟨_,rfl⟩
    rw [hlk2] at HB1 HD hd1 hlk ⊢
    have hd1i:(0:Int) < (lk:Int):=by omega
    have HLK:=Lib.hid hlk2
    clear hb h0 hlk2
    go_wp2_with fail
    refine HD.out.mono ?_
    rintro e w2 ⟨q,r,rfl,hq,hr,X2⟩
    go_wp2_with fail
    go_roundg (a % gk)
    case rel => exact ⟨gk,HB1.out.ext X2,hr,by rw [HLK.out]; exact hlk,hlr.out,hnext.out,X.trans X2⟩
    case measure => exact hlt.out
def IntV (w:World) (v:Value) (z:Int):Prop:=∃ (q:Bool) (ao:Option Addr) (l c:Nat),v=.agg #[.bool q,.slice ao l c] ∧ q=decide (z < 0) ∧ l=(dig z.natAbs).length ∧ NatV w (.slice ao l c) z.natAbs
theorem IntV.ext {w w':World} {v:Value} {z:Int} (h:IntV w v z) (hx:Ext w w'):IntV w' v z:=by
 obtain ⟨q,ao,l,c,h1,h2,h3,h4⟩:=h
 exact ⟨q,ao,l,c,h1,h2,h3,h4.ext hx⟩
theorem IntV.opn {w:World} {v:Value} {z:Int} (h:IntV w v z):∃ (q:Bool) (ao:Option Addr) (l c:Nat),v=.agg #[.bool q,.slice ao l c] ∧ Hid (q=decide (z < 0)) ∧ Hid (l=(dig z.natAbs).length) ∧ Hid (∀ W,Ext w W → NatV W (.slice ao l c) z.natAbs):=by
 obtain ⟨q,ao,l,c,h1,h2,h3,h4⟩:=h
 exact ⟨q,ao,l,c,h1,h2,h3,fun W hx => h4.ext hx⟩
theorem NatV.opn {w:World} {v:Value} {n:Nat} (h:NatV w v n):∃ (ao:Option Addr) (l c:Nat),v=.slice ao l c ∧ Hid (l=(dig n).length) ∧ Hid (NatV w (.slice ao l c) n):=by
 have h0:=h
 obtain ⟨ao,c,rfl,_,_⟩:=h.open
 exact ⟨ao,_,c,rfl,rfl,h0⟩
theorem intV_mk {w:World} {ao:Option Addr} {l c n:Nat} {z:Int} {q:Bool} (h:NatV w (.slice ao l c) n) (hl:l=(dig n).length) (hn:z.natAbs=n) (hq:q=decide (z < 0)):IntV w (.agg #[.bool q,.slice ao l c]) z :=
 ⟨q,ao,l,c,rfl,hq,by rw [hn]; exact hl,by rw [hn]; exact h⟩
def sg (neg:Bool) (n:Nat):Int:=if neg then -(n:Int) else (n:Int)
theorem sg_abs (neg:Bool) (n:Nat):(sg neg n).natAbs=n:=by unfold sg; split <;> omega
theorem sg_neg (neg:Bool) (n:Nat):decide (sg neg n < 0)=(neg && decide (0 < n)):=by
 unfold sg; cases neg <;> simp
theorem sg_of (z:Int):sg (decide (z < 0)) z.natAbs=z:=by
 unfold sg
 by_cases h:z < 0
 · rw [decide_eq_true h]; simp only [if_true]; omega
 · rw [decide_eq_false h]; simp only [Bool.false_eq_true,if_false]; omega
theorem dig_pos_len {n:Nat} (h:0 < n):0 < (dig n).length:=by
 rcases Nat.eq_zero_or_pos (dig n).length with h0 | h0
 · exact absurd (dig_nil_iff.1 (List.eq_nil_of_length_eq_zero h0)) (by omega)
 · exact h0
set_option maxHeartbeats 800000 in
set_option maxRecDepth 100000 in
theorem made_any (neg:Bool) (a:Value) (n:Nat) (w:World) (ha:NatV w a n) :
 Calls Tryz.prog 125 #[.bool neg,a] w fun e w' => ∃ v,e=.returned v ∧ IntV w' v (sg neg n) ∧ Ext w w':=by
 obtain ⟨ao,l,c,rfl,HL,HA⟩:=ha.opn
 obtain ⟨k,hk⟩:∃ k,(neg && decide (0 < n))=k:=⟨_,rfl⟩
 have HK:=Lib.hid hk
 have hli:(neg=false ∧ k=false) ∨ (neg=true ∧ k=false ∧ (l:Int) ≤ 0) ∨ (neg=true ∧ k=true ∧ (0:Int) < (l:Int)):=by
  cases neg
  · exact .inl ⟨rfl,by rw [← hk]; rfl⟩
  · rcases Nat.eq_zero_or_pos n with h0 | h0
    · refine .inr (.inl ⟨rfl,by rw [← hk,h0]; rfl,?_⟩)
      rw [HL.out,h0,dig_zero]; simp
    · refine .inr (.inr ⟨rfl,by rw [← hk,decide_eq_true h0]; rfl,?_⟩)
      have:=dig_pos_len h0
      rw [HL.out]; omega
 clear ha hk
 rcases hli with ⟨rfl,rfl⟩ | ⟨rfl,rfl,h⟩ | ⟨rfl,rfl,h⟩
 all_goals
  first
  | have hb:decide ((0:Int) < (l:Int))=false:=decide_eq_false (by omega)
  | have hb:decide ((0:Int) < (l:Int))=true:=decide_eq_true (by omega)
  | skip
  go_enter Tryz.func125,Tryz.ntmps125
  go_wp2_with fail
 · refine bodyPost_ret (v:=.agg #[.bool false,.slice ao l c]) (by simp [results,Tryz.results125,go_sem]) rfl ?_
   exact ⟨_,rfl,intV_mk (HA.out.ext ((Ext.refl w).alloc _)) HL.out (sg_abs _ _) (by rw [sg_neg,HK.out]),(Ext.refl w).alloc _⟩
 · refine bodyPost_ret (v:=.agg #[.bool false,.slice ao l c]) (by simp [results,Tryz.results125,go_sem,show l=0 by omega]) rfl ?_
   exact ⟨_,rfl,intV_mk (HA.out.ext ((Ext.refl w).alloc _)) HL.out (sg_abs _ _) (by rw [sg_neg,HK.out]),(Ext.refl w).alloc _⟩
 · refine bodyPost_ret (v:=.agg #[.bool true,.slice ao l c]) (by simp [results,Tryz.results125,go_sem,show 0 < l by omega]) rfl ?_
   exact ⟨_,rfl,intV_mk (HA.out.ext ((Ext.refl w).alloc _)) HL.out (sg_abs _ _) (by rw [sg_neg,HK.out]),(Ext.refl w).alloc _⟩
theorem cell_of_obj {w:World} {g:Nat} {cs:Array Value} {t:TypeId} (h:w.heap[g]?=some (.cells cs t)) (i:Nat):w.cell? ⟨g,i,none⟩=cs[i]?:=by
 simp [World.cell?,h]
theorem nat_away {w:World} {v:Value} {n g:Nat} {cs:Array Value} {t:TypeId} (h:NatV w v n) (hb:w.heap[g]?=some (.cells cs t)) (hcs:∀ (i d:Nat),cs[i]? ≠ some (encD d)):(dig n).map encD=[] ∨ v.ownBlock ≠ some g:=by
 obtain ⟨ao,c,rfl,_,hc⟩:=h.open
 by_cases h0:dig n=[]
 · exact .inl (by rw [h0]; rfl)
 · refine .inr ?_
   intro e
   obtain ⟨d,t2,ht⟩:=List.exists_cons_of_ne_nil h0
   obtain ⟨b,off,rfl,hcell⟩:=hc 0 (encD d) (by rw [ht]; rfl)
   have hbg:b=g:=by simpa [Value.ownBlock] using e
   subst hbg
   rw [cell_of_obj hb] at hcell
   exact hcs _ _ hcell
structure Res2 (w:World) (g:Nat) (w2:World):Prop where
 f0:w2.frozen? ⟨g,0,none⟩=false
 c0:w2.cell? ⟨g,0,none⟩=some (.bool false)
 f1:∀ x,(w2.setCell ⟨g,0,none⟩ x).frozen? ⟨g,1,none⟩=false
 c1:∀ x,(w2.setCell ⟨g,0,none⟩ x).cell? ⟨g,1,none⟩=some (.slice none 0 0)
 d0:∀ x y,((w2.setCell ⟨g,0,none⟩ x).setCell ⟨g,1,none⟩ y).cell? ⟨g,0,none⟩=some x
 d1:∀ x y,((w2.setCell ⟨g,0,none⟩ x).setCell ⟨g,1,none⟩ y).cell? ⟨g,1,none⟩=some y
 ext:∀ x y,Ext w ((w2.setCell ⟨g,0,none⟩ x).setCell ⟨g,1,none⟩ y)
 nat:∀ x y (v:Value) (n:Nat),NatV w2 v n → NatV ((w2.setCell ⟨g,0,none⟩ x).setCell ⟨g,1,none⟩ y) v n
 far:∀ x y (b i:Nat) (v:Value),b ≠ g → w2.cell? ⟨b,i,none⟩=some v → ((w2.setCell ⟨g,0,none⟩ x).setCell ⟨g,1,none⟩ y).cell? ⟨b,i,none⟩=some v
theorem res2 {w w0 w2:World} {g:Nat} {t:TypeId} (hg:g=w0.heap.size) (h0:Ext w w0) (X:Ext (w0.alloc (.cells #[.bool false,.slice none 0 0] t)) w2):Res2 w g w2:=by
 subst hg
 have hO:=own_ext (World.ownsRow_lit (base:=w0.heap.size) (e:=t) (size:=1) w0 #[.bool false,.slice none 0 0] 2 (Nat.le_refl _) (by unfold maxLen; omega) (by simp)) X
 have hX:Ext w w2:=(h0.alloc _).trans X
 have hs:=h0.size
 have hb:w2.heap[w0.heap.size]?=some (.cells #[.bool false,.slice none 0 0] t):=by
  rw [X.block _ (by show w0.heap.size < (w0.heap.push _).size; rw [Array.size_push]; omega)]; exact Array.getElem?_push_size
 have s1:=fun x => hO.stored 0 x
 have s2:=fun x y => (s1 x).1.stored 1 y
 exact {
  f0:=hO.frozenAt 0
  c0:=own_cell hO (j:=0) (x:=.bool false) rfl
  f1:=fun x => (s1 x).1.frozenAt 1
  c1:=fun x => own_cell (s1 x).1 (j:=1) (x:=.slice none 0 0) rfl
  d0:=fun x y => own_cell (s2 x y).1 (j:=0) (x:=x) rfl
  d1:=fun x y => own_cell (s2 x y).1 (j:=1) (x:=y) rfl
  ext:=fun x y => (hX.setCell (p:=⟨w0.heap.size,0,none⟩) hs x).setCell (p:=⟨w0.heap.size,1,none⟩) hs y
  far:=fun x y b i v hne hc => (s2 x y).2.cell ((s1 x).2.cell hc (fun e => hne (Option.some.inj e))) (fun e => hne (Option.some.inj e))
  nat:=fun x y v n hv => by
   have ha:=nat_away hv hb (by
    intro i d
    match i with
    | 0 => simp [encD]
    | 1 => simp [encD]
    | i + 2 => simp)
   exact (hv.kept (s1 x).2 ha).kept (s2 x y).2 ha }
theorem Res2.int {w w2:World} {g:Nat} (h:Res2 w g w2) (x y:Value) {v:Value} {z:Int} (hv:IntV w2 v z):IntV ((w2.setCell ⟨g,0,none⟩ x).setCell ⟨g,1,none⟩ y) v z:=by
 obtain ⟨q,ao,l,c,h1,h2,h3,h4⟩:=hv
 exact ⟨q,ao,l,c,h1,h2,h3,h.nat _ _ _ _ h4⟩
set_option maxHeartbeats 1600000 in
set_option maxRecDepth 100000 in
theorem whole_any (n:Int) (w:World) (h1:-9223372036854775808 ≤ n) (h2:n ≤ 9223372036854775807) :
 Calls Tryz.prog 118 #[.int .i64 n] w fun e w' => ∃ v,e=.returned v ∧ IntV w' v n ∧ Ext w w':=by
 obtain ⟨m,hm⟩:∃ m,n.natAbs=m:=⟨_,rfl⟩
 have HM:=Lib.hid hm
 have HS:=Lib.hid (fun W => small_any m W (by omega))
 by_cases h:n < 0
 · have e1:-(n + 1) + 1=(m:Int):=by omega
   have e0:-(n + 1)=(m:Int) - 1:=by omega
   have hm1:(1:Int) ≤ (m:Int):=by omega
   have hm9:(m:Int) ≤ 9223372036854775808:=by omega
   have HNG:=Lib.hid h
   clear hm
   go_enter Tryz.func118,Tryz.ntmps118
   go_wp2_with fail
   refine (HS.out _).mono ?_
   rintro e w2 ⟨a,rfl,ha,X2⟩
   obtain ⟨ao,l,c,rfl,HL,HA⟩:=ha.opn
   have R:=res2 (w:=w) (g:=w.heap.size) rfl (Ext.refl w) X2
   have f0:=R.f0
   have c0:=R.c0
   have f1:=R.f1
   have c1:=R.c1
   have R:=Lib.hid R
   clear ha
   go_wp2_with fail
   refine bodyPost_ret (v:=.agg #[.bool true,.slice ao l c]) (by simp [results,Tryz.results118,go_sem,R.out.d0,R.out.d1]) rfl ?_
   exact ⟨_,rfl,R.out.int _ _ (intV_mk HA.out HL.out HM.out (decide_eq_true HNG.out).symm),R.out.ext _ _⟩
 · have e0:n=(m:Int):=by omega
   subst e0
   have hm9:(m:Int) ≤ 9223372036854775807:=by omega
   clear hm h
   go_enter Tryz.func118,Tryz.ntmps118
   go_wp2_with fail
   refine (HS.out _).mono ?_
   rintro e w2 ⟨a,rfl,ha,X2⟩
   obtain ⟨ao,l,c,rfl,HL,HA⟩:=ha.opn
   have R:=res2 (w:=w) (g:=w.heap.size) rfl (Ext.refl w) X2
   have f0:=R.f0
   have c0:=R.c0
   have f1:=R.f1
   have c1:=R.c1
   have R:=Lib.hid R
   clear ha
   go_wp2_with fail
   refine bodyPost_ret (v:=.agg #[.bool false,.slice ao l c]) (by simp [results,Tryz.results118,go_sem,R.out.d0,R.out.d1]) rfl ?_
   exact ⟨_,rfl,R.out.int _ _ (intV_mk HA.out HL.out rfl (by simp)),R.out.ext _ _⟩
set_option maxHeartbeats 1600000 in
set_option maxRecDepth 100000 in
theorem intSign_any (v:Value) (z:Int) (w:World) (hv:IntV w v z) :
 Calls Tryz.prog 132 #[v] w fun e w' => e=.returned (.int .i64 z.sign) ∧ Ext w w':=by
 obtain ⟨q,ao,l,c,rfl,HQ,HL,HA⟩:=hv.opn
 have hc:(z.sign=-1 ∧ q=true ∧ 0 < l) ∨ (z.sign=0 ∧ l=0) ∨ (z.sign=1 ∧ q=false ∧ 0 < l):=by
  rcases Int.lt_trichotomy z 0 with h | h | h
  · exact .inl ⟨Int.sign_eq_neg_one_of_neg h,by rw [HQ.out]; exact decide_eq_true h,by rw [HL.out]; exact dig_pos_len (by omega)⟩
  · subst h
    exact .inr (.inl ⟨rfl,by rw [HL.out]; show (dig 0).length=0; rw [dig_zero]; rfl⟩)
  · exact .inr (.inr ⟨Int.sign_eq_one_of_pos h,by rw [HQ.out]; exact decide_eq_false (by omega),by rw [HL.out]; exact dig_pos_len (by omega)⟩)
 clear hv
 rcases hc with ⟨hs,rfl,hl⟩ | ⟨hs,hl⟩ | ⟨hs,rfl,hl⟩
 all_goals
  rw [hs]
  first
  | have hb:((l:Int) == 0)=false:=by rw [beq_eq_false_iff_ne]; omega
  | (subst hl)
  try clear hs
  go_enter Tryz.func132,Tryz.ntmps132
  go_wp2_with fail
  go_ret
  exact ⟨rfl,(Ext.refl w).alloc _⟩
set_option maxHeartbeats 1600000 in
set_option maxRecDepth 100000 in
theorem intOpp_any (v:Value) (z:Int) (w:World) (hv:IntV w v z) :
 Calls Tryz.prog 141 #[v] w fun e w' => ∃ u,e=.returned u ∧ IntV w' u (-z) ∧ Ext w w':=by
 obtain ⟨q,ao,l,c,rfl,HQ,HL,HA⟩:=hv.opn
 have hsg:sg (!q) z.natAbs=-z:=by
  rw [HQ.out]; unfold sg
  by_cases h:z < 0
  · simp [h]; omega
  · simp [h]; omega
 have HM:=Lib.hid (fun W (hx:Ext w W) => made_any (!q) (.slice ao l c) z.natAbs W (HA.out W hx))
 rw [hsg] at HM
 clear hv hsg
 go_enter Tryz.func141,Tryz.ntmps141
 go_wp2_with fail
 refine (HM.out _ (((Ext.refl w).alloc _).alloc _)).mono ?_
 rintro e w2 ⟨u,rfl,hu,X2⟩
 obtain ⟨q2,ao2,l2,c2,rfl,_,_,_⟩:=hu.opn
 have R:=res2 (w:=w) (g:=w.heap.size + 1) (by simp) ((Ext.refl w).alloc _) X2
 have f0:=R.f0
 have c0:=R.c0
 have f1:=R.f1
 have c1:=R.c1
 have R:=Lib.hid R
 have HU:=Lib.hid hu
 clear hu
 go_wp2_with fail
 refine bodyPost_ret (v:=.agg #[.bool q2,.slice ao2 l2 c2]) (by simp [results,Tryz.results141,go_sem,R.out.d0,R.out.d1]) rfl ?_
 exact ⟨_,rfl,R.out.int _ _ HU.out,R.out.ext _ _⟩
set_option maxHeartbeats 1600000 in
set_option maxRecDepth 100000 in
theorem intMul_any (u v:Value) (y z:Int) (w:World) (hu:IntV w u y) (hv:IntV w v z) (hl:(dig y.natAbs).length ≤ 1073741824) (hl2:(dig z.natAbs).length ≤ 1073741824) :
 Calls Tryz.prog 120 #[u,v] w fun e w' => ∃ r,e=.returned r ∧ IntV w' r (y * z) ∧ Ext w w':=by
 obtain ⟨q,ao,l,c,rfl,HQ,HL,HA⟩:=hu.opn
 obtain ⟨q2,ao2,l2,c2,rfl,HQ2,HL2,HA2⟩:=hv.opn
 have hsg:sg (q != q2) (y.natAbs * z.natAbs)=y * z:=by
  rw [HQ.out,HQ2.out,← Int.natAbs_mul]
  have:(decide (y < 0) != decide (z < 0))=decide (y * z < 0) ∨ y * z=0:=by
   rcases Int.lt_trichotomy y 0 with h | h | h
   · rcases Int.lt_trichotomy z 0 with h2 | h2 | h2
     · left
       have:=Int.mul_pos_of_neg_of_neg h h2
       rw [decide_eq_true h,decide_eq_true h2,decide_eq_false (by omega)]; rfl
     · right; rw [h2,Int.mul_zero]
     · left
       have:=Int.mul_neg_of_neg_of_pos h h2
       rw [decide_eq_true h,decide_eq_false (show ¬ z < 0 by omega),decide_eq_true this]; rfl
   · right; rw [h,Int.zero_mul]
   · rcases Int.lt_trichotomy z 0 with h2 | h2 | h2
     · left
       have:=Int.mul_neg_of_pos_of_neg h h2
       rw [decide_eq_false (show ¬ y < 0 by omega),decide_eq_true h2,decide_eq_true this]; rfl
     · right; rw [h2,Int.mul_zero]
     · left
       have:=Int.mul_pos h h2
       rw [decide_eq_false (show ¬ y < 0 by omega),decide_eq_false (show ¬ z < 0 by omega),decide_eq_false (by omega)]; rfl
  rcases this with h | h
  · rw [h]; exact sg_of _
  · rw [h]; unfold sg; split <;> rfl
 obtain ⟨nn,hnn⟩:∃ nn,y.natAbs * z.natAbs=nn:=⟨_,rfl⟩
 have HNM:=Lib.hid (fun W (hx:Ext w W) => by
  have:=mul_any (.slice ao l c) (.slice ao2 l2 c2) y.natAbs z.natAbs W (HA.out W hx) (HA2.out W hx) (by omega) (by omega)
  rw [hnn] at this
  exact this)
 rw [hnn] at hsg
 have HM:=Lib.hid (fun (a:Value) W (ha:NatV W a nn) => by
  have:=made_any (q != q2) a nn W ha
  rw [hsg] at this
  exact this)
 clear hu hv hsg hnn
 go_enter Tryz.func120,Tryz.ntmps120
 go_wp2_with fail
 obtain ⟨W3,hW3⟩:∃ W3,((w.alloc (.cells #[.bool q,.slice ao l c] 87)).alloc (.cells #[.bool q2,.slice ao2 l2 c2] 87)).alloc (.cells #[.bool false,.slice none 0 0] 87)=W3:=⟨_,rfl⟩
 have HRES:=Lib.hid (fun w2 (X:Ext W3 w2) => res2 (w:=w) (w2:=w2) (g:=w.heap.size + 2) (t:=87) (by simp) (((Ext.refl w).alloc (.cells #[.bool q,.slice ao l c] 87)).alloc (.cells #[.bool q2,.slice ao2 l2 c2] 87)) (by rw [hW3]; exact X))
 have k1:W3.cell? ⟨w.heap.size,0,none⟩=some (.bool q):=by rw [← hW3]; simp [go_sem]
 have k2:W3.cell? ⟨w.heap.size,1,none⟩=some (.slice ao l c):=by rw [← hW3]; simp [go_sem]
 have k3:W3.cell? ⟨w.heap.size + 1,0,none⟩=some (.bool q2):=by rw [← hW3]; simp [go_sem]
 have k4:W3.cell? ⟨w.heap.size + 1,1,none⟩=some (.slice ao2 l2 c2):=by rw [← hW3]; simp [go_sem]
 have HX:Ext w W3:=by rw [← hW3]; exact (((Ext.refl w).alloc _).alloc _).alloc _
 rw [hW3]
 clear hW3
 go_region_held3 (fun w' => w'.cell? ⟨w.heap.size,0,none⟩=some (.bool q) ∧ w'.cell? ⟨w.heap.size,1,none⟩=some (.slice ao l c) ∧ w'.cell? ⟨w.heap.size + 1,0,none⟩=some (.bool q2) ∧ w'.cell? ⟨w.heap.size + 1,1,none⟩=some (.slice ao2 l2 c2)) (first | exact ⟨k1,k2,k3,k4⟩ | exact ⟨X5.cell k1,X5.cell k2,X5.cell k3,X5.cell k4⟩ | exact ⟨X6.cell k1,X6.cell k2,X6.cell k3,X6.cell k4⟩ | exact ⟨R.out.far _ _ _ _ _ (by omega) (X6.cell k1),R.out.far _ _ _ _ _ (by omega) (X6.cell k2),R.out.far _ _ _ _ _ (by omega) (X6.cell k3),R.out.far _ _ _ _ _ (by omega) (X6.cell k4)⟩ | go_keep)
  (first
  | (go_at_call 122; refine (HNM.out _ (by exact HX.drew)).mono ?_; rintro e w5 ⟨r,rfl,hr,Y5⟩; have X5:Ext W3 w5:=(Ext.refl W3).drew.trans Y5; obtain ⟨ao5,l5,c5,rfl,_,HR5⟩:=hr.opn; clear hr)
  | (go_at_call 125; refine (HM.out _ _ HR5.out).mono ?_; rintro e w6 ⟨u,rfl,hu,Y6⟩; have X6:Ext W3 w6:=X5.trans Y6; obtain ⟨q6,ao6,l6,c6,rfl,_,_,_⟩:=hu.opn; have R:=HRES.out _ X6; have f0:=R.f0; have c0:=R.c0; have f1:=R.f1; have c1:=R.c1; have R:=Lib.hid R; have HU:=Lib.hid hu; clear hu))
 all_goals
  go_wp2_with fail
  refine bodyPost_ret (v:=.agg #[.bool q6,.slice ao6 l6 c6]) (by simp [results,Tryz.results120,go_sem,R.out.d0,R.out.d1]) rfl ?_
  exact ⟨_,rfl,R.out.int _ _ HU.out,R.out.ext _ _⟩
theorem sg_add_same {y z:Int} (h:decide (y < 0)=decide (z < 0)):sg (decide (y < 0)) (y.natAbs + z.natAbs)=y + z:=by
 unfold sg
 by_cases h1:y < 0
 · have h2:z < 0:=by rw [decide_eq_true h1] at h; exact of_decide_eq_true h.symm
   rw [decide_eq_true h1]; simp only [if_true]; omega
 · have h2:¬ z < 0:=by rw [decide_eq_false h1] at h; exact of_decide_eq_false h.symm
   rw [decide_eq_false h1]; simp only [Bool.false_eq_true,if_false]; omega
theorem sg_add_diff {y z:Int} (h:decide (y < 0) ≠ decide (z < 0)) (hle:z.natAbs ≤ y.natAbs):sg (decide (y < 0)) (y.natAbs - z.natAbs)=y + z:=by
 unfold sg
 by_cases h1:y < 0
 · have h2:¬ z < 0:=fun h2 => h (by rw [decide_eq_true h1,decide_eq_true h2])
   rw [decide_eq_true h1]; simp only [if_true]; omega
 · have h2:z < 0:=by
    rcases Int.lt_or_le z 0 with h2 | h2
    · exact h2
    · exact absurd (by rw [decide_eq_false h1,decide_eq_false (show ¬ z < 0 by omega)]) h
   rw [decide_eq_false h1]; simp only [Bool.false_eq_true,if_false]; omega
set_option maxHeartbeats 1600000 in
set_option maxRecDepth 100000 in
theorem intAdd_any (u v:Value) (y z:Int) (w:World) (hu:IntV w u y) (hv:IntV w v z) (hl:(dig y.natAbs).length ≤ 1073741824) (hl2:(dig z.natAbs).length ≤ 1073741824) :
 Calls Tryz.prog 121 #[u,v] w fun e w' => ∃ r,e=.returned r ∧ IntV w' r (y + z) ∧ Ext w w':=by
 obtain ⟨q,ao,l,c,rfl,HQ,HL,HA⟩:=hu.opn
 obtain ⟨q2,ao2,l2,c2,rfl,HQ2,HL2,HA2⟩:=hv.opn
 rcases (show (q=q2) ∨ (q ≠ q2 ∧ z.natAbs ≤ y.natAbs) ∨ (q ≠ q2 ∧ y.natAbs < z.natAbs) by
  by_cases h:q=q2
  · exact .inl h
  · rcases Nat.lt_or_ge y.natAbs z.natAbs with h2 | h2
    · exact .inr (.inr ⟨h,h2⟩)
    · exact .inr (.inl ⟨h,h2⟩)) with hcase | ⟨hcase,hle⟩ | ⟨hcase,hle⟩
 · obtain ⟨nn,hnn⟩:∃ nn,y.natAbs + z.natAbs=nn:=⟨_,rfl⟩
   have hsg:sg q nn=y + z:=by rw [HQ.out,← hnn]; exact sg_add_same (by rw [← HQ.out,← HQ2.out]; exact hcase)
   have HNM:=Lib.hid (fun W (hx:Ext w W) => by
    have:=add_any (.slice ao l c) (.slice ao2 l2 c2) y.natAbs z.natAbs W (HA.out W hx) (HA2.out W hx) hl hl2
    rw [hnn] at this
    exact this)
   have hqq:(q == q2)=true:=by rw [hcase]; exact beq_self_eq_true q2
   have HM:=Lib.hid (fun (a:Value) W (ha:NatV W a nn) => by
    have:=made_any q a nn W ha
    rw [hsg] at this
    exact this)
   clear hu hv hsg hnn hcase
   go_enter Tryz.func121,Tryz.ntmps121
   go_wp2_with fail
   obtain ⟨W3,hW3⟩:∃ W3,((w.alloc (.cells #[.bool q,.slice ao l c] 87)).alloc (.cells #[.bool q2,.slice ao2 l2 c2] 87)).alloc (.cells #[.bool false,.slice none 0 0] 87)=W3:=⟨_,rfl⟩
   have HRES:=Lib.hid (fun w2 (X:Ext W3 w2) => res2 (w:=w) (w2:=w2) (g:=w.heap.size + 2) (t:=87) (by simp) (((Ext.refl w).alloc (.cells #[.bool q,.slice ao l c] 87)).alloc (.cells #[.bool q2,.slice ao2 l2 c2] 87)) (by rw [hW3]; exact X))
   have k1:W3.cell? ⟨w.heap.size,0,none⟩=some (.bool q):=by rw [← hW3]; simp [go_sem]
   have k2:W3.cell? ⟨w.heap.size,1,none⟩=some (.slice ao l c):=by rw [← hW3]; simp [go_sem]
   have k3:W3.cell? ⟨w.heap.size + 1,0,none⟩=some (.bool q2):=by rw [← hW3]; simp [go_sem]
   have k4:W3.cell? ⟨w.heap.size + 1,1,none⟩=some (.slice ao2 l2 c2):=by rw [← hW3]; simp [go_sem]
   have HX:Ext w W3:=by rw [← hW3]; exact (((Ext.refl w).alloc _).alloc _).alloc _
   rw [hW3]
   clear hW3
   go_region_held3 (fun w' => w'.cell? ⟨w.heap.size,0,none⟩=some (.bool q) ∧ w'.cell? ⟨w.heap.size,1,none⟩=some (.slice ao l c) ∧ w'.cell? ⟨w.heap.size + 1,0,none⟩=some (.bool q2) ∧ w'.cell? ⟨w.heap.size + 1,1,none⟩=some (.slice ao2 l2 c2)) (first | exact ⟨k1,k2,k3,k4⟩ | exact ⟨X5.cell k1,X5.cell k2,X5.cell k3,X5.cell k4⟩ | exact ⟨X6.cell k1,X6.cell k2,X6.cell k3,X6.cell k4⟩ | exact ⟨R.out.far _ _ _ _ _ (by omega) (X6.cell k1),R.out.far _ _ _ _ _ (by omega) (X6.cell k2),R.out.far _ _ _ _ _ (by omega) (X6.cell k3),R.out.far _ _ _ _ _ (by omega) (X6.cell k4)⟩ | go_keep)
    (first
    | (go_at_call 150; refine (HNM.out _ (by exact HX.drew)).mono ?_; rintro e w5 ⟨r,rfl,hr,Y5⟩; have X5:Ext W3 w5:=(Ext.refl W3).drew.trans Y5; obtain ⟨ao5,l5,c5,rfl,_,HR5⟩:=hr.opn; clear hr)
    | (go_at_call 125; refine (HM.out _ _ HR5.out).mono ?_; rintro e w6 ⟨u,rfl,hu,Y6⟩; have X6:Ext W3 w6:=X5.trans Y6; obtain ⟨q6,ao6,l6,c6,rfl,_,_,_⟩:=hu.opn; have R:=HRES.out _ X6; have f0:=R.f0; have c0:=R.c0; have f1:=R.f1; have c1:=R.c1; have R:=Lib.hid R; have HU:=Lib.hid hu; clear hu))
   all_goals
    go_wp2_with fail
    refine bodyPost_ret (v:=.agg #[.bool q6,.slice ao6 l6 c6]) (by simp [results,Tryz.results121,go_sem,R.out.d0,R.out.d1]) rfl ?_
    exact ⟨_,rfl,R.out.int _ _ HU.out,R.out.ext _ _⟩
 · obtain ⟨nn,hnn⟩:∃ nn,y.natAbs - z.natAbs=nn:=⟨_,rfl⟩
   have hsg:sg q nn=y + z:=by rw [HQ.out,← hnn]; exact sg_add_diff (by rw [← HQ.out,← HQ2.out]; exact hcase) hle
   have HNM:=Lib.hid (fun W (hx:Ext w W) => by
    have:=sub_any (.slice ao l c) (.slice ao2 l2 c2) y.natAbs z.natAbs W (HA.out W hx) (HA2.out W hx) hl (by omega)
    rw [hnn] at this
    exact this)
   obtain ⟨zc,hzc⟩:∃ zc,cmpZ y.natAbs z.natAbs=zc:=⟨_,rfl⟩
   have HC:=Lib.hid (fun W (hx:Ext w W) => by
    have:=cmp_any (.slice ao l c) (.slice ao2 l2 c2) y.natAbs z.natAbs W (HA.out W hx) (HA2.out W hx)
    rw [hzc] at this
    exact this)
   have hzi:0 ≤ zc:=by
    rw [← hzc]; unfold cmpZ
    rw [if_neg (by omega)]; split <;> omega
   have hqq:(q == q2)=false:=by rw [beq_eq_false_iff_ne]; exact hcase
   clear hzc hle
   have HM:=Lib.hid (fun (a:Value) W (ha:NatV W a nn) => by
    have:=made_any q a nn W ha
    rw [hsg] at this
    exact this)
   clear hu hv hsg hnn hcase
   go_enter Tryz.func121,Tryz.ntmps121
   go_wp2_with fail
   obtain ⟨W3,hW3⟩:∃ W3,((w.alloc (.cells #[.bool q,.slice ao l c] 87)).alloc (.cells #[.bool q2,.slice ao2 l2 c2] 87)).alloc (.cells #[.bool false,.slice none 0 0] 87)=W3:=⟨_,rfl⟩
   have HRES:=Lib.hid (fun w2 (X:Ext W3 w2) => res2 (w:=w) (w2:=w2) (g:=w.heap.size + 2) (t:=87) (by simp) (((Ext.refl w).alloc (.cells #[.bool q,.slice ao l c] 87)).alloc (.cells #[.bool q2,.slice ao2 l2 c2] 87)) (by rw [hW3]; exact X))
   have k1:W3.cell? ⟨w.heap.size,0,none⟩=some (.bool q):=by rw [← hW3]; simp [go_sem]
   have k2:W3.cell? ⟨w.heap.size,1,none⟩=some (.slice ao l c):=by rw [← hW3]; simp [go_sem]
   have k3:W3.cell? ⟨w.heap.size + 1,0,none⟩=some (.bool q2):=by rw [← hW3]; simp [go_sem]
   have k4:W3.cell? ⟨w.heap.size + 1,1,none⟩=some (.slice ao2 l2 c2):=by rw [← hW3]; simp [go_sem]
   have HX:Ext w W3:=by rw [← hW3]; exact (((Ext.refl w).alloc _).alloc _).alloc _
   rw [hW3]
   clear hW3
   refine (HC.out _ (by exact HX)).mono ?_
   rintro e w4 ⟨rfl,X4⟩
   have k1:=X4.cell k1
   have k2:=X4.cell k2
   have k3:=X4.cell k3
   have k4:=X4.cell k4
   have HRES:=Lib.hid (fun w2 (X:Ext w4 w2) => HRES.out w2 (X4.trans X))
   have HX:=HX.trans X4
   go_wp2_with fail
   go_region_held3 (fun w' => w'.cell? ⟨w.heap.size,0,none⟩=some (.bool q) ∧ w'.cell? ⟨w.heap.size,1,none⟩=some (.slice ao l c) ∧ w'.cell? ⟨w.heap.size + 1,0,none⟩=some (.bool q2) ∧ w'.cell? ⟨w.heap.size + 1,1,none⟩=some (.slice ao2 l2 c2)) (first | exact ⟨k1,k2,k3,k4⟩ | exact ⟨X5.cell k1,X5.cell k2,X5.cell k3,X5.cell k4⟩ | exact ⟨X6.cell k1,X6.cell k2,X6.cell k3,X6.cell k4⟩ | exact ⟨R.out.far _ _ _ _ _ (by omega) (X6.cell k1),R.out.far _ _ _ _ _ (by omega) (X6.cell k2),R.out.far _ _ _ _ _ (by omega) (X6.cell k3),R.out.far _ _ _ _ _ (by omega) (X6.cell k4)⟩ | go_keep)
    (first
    | (go_at_call 152; refine (HNM.out _ (by exact HX.drew)).mono ?_; rintro e w5 ⟨r,rfl,hr,Y5⟩; have X5:Ext w4 w5:=(Ext.refl w4).drew.trans Y5; obtain ⟨ao5,l5,c5,rfl,_,HR5⟩:=hr.opn; clear hr)
    | (go_at_call 125; refine (HM.out _ _ HR5.out).mono ?_; rintro e w6 ⟨u,rfl,hu,Y6⟩; have X6:Ext w4 w6:=X5.trans Y6; obtain ⟨q6,ao6,l6,c6,rfl,_,_,_⟩:=hu.opn; have R:=HRES.out _ X6; have f0:=R.f0; have c0:=R.c0; have f1:=R.f1; have c1:=R.c1; have R:=Lib.hid R; have HU:=Lib.hid hu; clear hu))
   all_goals
    go_wp2_with fail
    refine bodyPost_ret (v:=.agg #[.bool q6,.slice ao6 l6 c6]) (by simp [results,Tryz.results121,go_sem,R.out.d0,R.out.d1]) rfl ?_
    exact ⟨_,rfl,R.out.int _ _ HU.out,R.out.ext _ _⟩
 · obtain ⟨nn,hnn⟩:∃ nn,z.natAbs - y.natAbs=nn:=⟨_,rfl⟩
   have hsg:sg q2 nn=y + z:=by rw [HQ2.out,← hnn,Int.add_comm]; exact sg_add_diff (by rw [← HQ.out,← HQ2.out]; exact fun e => hcase e.symm) (Nat.le_of_lt hle)
   have HNM:=Lib.hid (fun W (hx:Ext w W) => by
    have:=sub_any (.slice ao2 l2 c2) (.slice ao l c) z.natAbs y.natAbs W (HA2.out W hx) (HA.out W hx) hl2 (by omega)
    rw [hnn] at this
    exact this)
   obtain ⟨zc,hzc⟩:∃ zc,cmpZ y.natAbs z.natAbs=zc:=⟨_,rfl⟩
   have HC:=Lib.hid (fun W (hx:Ext w W) => by
    have:=cmp_any (.slice ao l c) (.slice ao2 l2 c2) y.natAbs z.natAbs W (HA.out W hx) (HA2.out W hx)
    rw [hzc] at this
    exact this)
   have hzi:zc < 0:=by
    rw [← hzc]; unfold cmpZ
    rw [if_pos (by omega)]; omega
   have hqq:(q == q2)=false:=by rw [beq_eq_false_iff_ne]; exact hcase
   clear hzc hle
   have HM:=Lib.hid (fun (a:Value) W (ha:NatV W a nn) => by
    have:=made_any q2 a nn W ha
    rw [hsg] at this
    exact this)
   clear hu hv hsg hnn hcase
   go_enter Tryz.func121,Tryz.ntmps121
   go_wp2_with fail
   obtain ⟨W3,hW3⟩:∃ W3,((w.alloc (.cells #[.bool q,.slice ao l c] 87)).alloc (.cells #[.bool q2,.slice ao2 l2 c2] 87)).alloc (.cells #[.bool false,.slice none 0 0] 87)=W3:=⟨_,rfl⟩
   have HRES:=Lib.hid (fun w2 (X:Ext W3 w2) => res2 (w:=w) (w2:=w2) (g:=w.heap.size + 2) (t:=87) (by simp) (((Ext.refl w).alloc (.cells #[.bool q,.slice ao l c] 87)).alloc (.cells #[.bool q2,.slice ao2 l2 c2] 87)) (by rw [hW3]; exact X))
   have k1:W3.cell? ⟨w.heap.size,0,none⟩=some (.bool q):=by rw [← hW3]; simp [go_sem]
   have k2:W3.cell? ⟨w.heap.size,1,none⟩=some (.slice ao l c):=by rw [← hW3]; simp [go_sem]
   have k3:W3.cell? ⟨w.heap.size + 1,0,none⟩=some (.bool q2):=by rw [← hW3]; simp [go_sem]
   have k4:W3.cell? ⟨w.heap.size + 1,1,none⟩=some (.slice ao2 l2 c2):=by rw [← hW3]; simp [go_sem]
   have HX:Ext w W3:=by rw [← hW3]; exact (((Ext.refl w).alloc _).alloc _).alloc _
   rw [hW3]
   clear hW3
   refine (HC.out _ (by exact HX)).mono ?_
   rintro e w4 ⟨rfl,X4⟩
   have k1:=X4.cell k1
   have k2:=X4.cell k2
   have k3:=X4.cell k3
   have k4:=X4.cell k4
   have HRES:=Lib.hid (fun w2 (X:Ext w4 w2) => HRES.out w2 (X4.trans X))
   have HX:=HX.trans X4
   go_wp2_with fail
   go_region_held3 (fun w' => w'.cell? ⟨w.heap.size,0,none⟩=some (.bool q) ∧ w'.cell? ⟨w.heap.size,1,none⟩=some (.slice ao l c) ∧ w'.cell? ⟨w.heap.size + 1,0,none⟩=some (.bool q2) ∧ w'.cell? ⟨w.heap.size + 1,1,none⟩=some (.slice ao2 l2 c2)) (first | exact ⟨k1,k2,k3,k4⟩ | exact ⟨X5.cell k1,X5.cell k2,X5.cell k3,X5.cell k4⟩ | exact ⟨X6.cell k1,X6.cell k2,X6.cell k3,X6.cell k4⟩ | exact ⟨R.out.far _ _ _ _ _ (by omega) (X6.cell k1),R.out.far _ _ _ _ _ (by omega) (X6.cell k2),R.out.far _ _ _ _ _ (by omega) (X6.cell k3),R.out.far _ _ _ _ _ (by omega) (X6.cell k4)⟩ | go_keep)
    (first
    | (go_at_call 152; refine (HNM.out _ (by exact HX.drew)).mono ?_; rintro e w5 ⟨r,rfl,hr,Y5⟩; have X5:Ext w4 w5:=(Ext.refl w4).drew.trans Y5; obtain ⟨ao5,l5,c5,rfl,_,HR5⟩:=hr.opn; clear hr)
    | (go_at_call 125; refine (HM.out _ _ HR5.out).mono ?_; rintro e w6 ⟨u,rfl,hu,Y6⟩; have X6:Ext w4 w6:=X5.trans Y6; obtain ⟨q6,ao6,l6,c6,rfl,_,_,_⟩:=hu.opn; have R:=HRES.out _ X6; have f0:=R.f0; have c0:=R.c0; have f1:=R.f1; have c1:=R.c1; have R:=Lib.hid R; have HU:=Lib.hid hu; clear hu))
   all_goals
    go_wp2_with fail
    refine bodyPost_ret (v:=.agg #[.bool q6,.slice ao6 l6 c6]) (by simp [results,Tryz.results121,go_sem,R.out.d0,R.out.d1]) rfl ?_
    exact ⟨_,rfl,R.out.int _ _ HU.out,R.out.ext _ _⟩
set_option maxHeartbeats 1600000 in
set_option maxRecDepth 100000 in
theorem intSub_any (u v:Value) (y z:Int) (w:World) (hu:IntV w u y) (hv:IntV w v z) (hl:(dig y.natAbs).length ≤ 1073741824) (hl2:(dig z.natAbs).length ≤ 1073741824) :
 Calls Tryz.prog 169 #[u,v] w fun e w' => ∃ r,e=.returned r ∧ IntV w' r (y - z) ∧ Ext w w':=by
 have HOP:=Lib.hid (fun W (hx:Ext w W) => intOpp_any v z W (hv.ext hx))
 have HAD:=Lib.hid (fun (a:Value) W (hx:Ext w W) (ha:IntV W a (-z)) => intAdd_any u a y (-z) W (hu.ext hx) ha hl (by rw [Int.natAbs_neg]; exact hl2))
 rw [← Int.sub_eq_add_neg] at HAD
 obtain ⟨q,ao,l,c,rfl,HQ,HL,HA⟩:=hu.opn
 obtain ⟨q2,ao2,l2,c2,rfl,HQ2,HL2,HA2⟩:=hv.opn
 clear hu hv
 go_enter Tryz.func169,Tryz.ntmps169
 go_wp2_with fail
 obtain ⟨W3,hW3⟩:∃ W3,((w.alloc (.cells #[.bool q,.slice ao l c] 87)).alloc (.cells #[.bool q2,.slice ao2 l2 c2] 87)).alloc (.cells #[.bool false,.slice none 0 0] 87)=W3:=⟨_,rfl⟩
 have HRES:=Lib.hid (fun w2 (X:Ext W3 w2) => res2 (w:=w) (w2:=w2) (g:=w.heap.size + 2) (t:=87) (by simp) (((Ext.refl w).alloc (.cells #[.bool q,.slice ao l c] 87)).alloc (.cells #[.bool q2,.slice ao2 l2 c2] 87)) (by rw [hW3]; exact X))
 have k1:W3.cell? ⟨w.heap.size,0,none⟩=some (.bool q):=by rw [← hW3]; simp [go_sem]
 have k2:W3.cell? ⟨w.heap.size,1,none⟩=some (.slice ao l c):=by rw [← hW3]; simp [go_sem]
 have k3:W3.cell? ⟨w.heap.size + 1,0,none⟩=some (.bool q2):=by rw [← hW3]; simp [go_sem]
 have k4:W3.cell? ⟨w.heap.size + 1,1,none⟩=some (.slice ao2 l2 c2):=by rw [← hW3]; simp [go_sem]
 have HX:Ext w W3:=by rw [← hW3]; exact (((Ext.refl w).alloc _).alloc _).alloc _
 rw [hW3]
 clear hW3
 go_region_held3 (fun w' => w'.cell? ⟨w.heap.size,0,none⟩=some (.bool q) ∧ w'.cell? ⟨w.heap.size,1,none⟩=some (.slice ao l c) ∧ w'.cell? ⟨w.heap.size + 1,0,none⟩=some (.bool q2) ∧ w'.cell? ⟨w.heap.size + 1,1,none⟩=some (.slice ao2 l2 c2)) (first | exact ⟨k1,k2,k3,k4⟩ | exact ⟨X5.cell k1,X5.cell k2,X5.cell k3,X5.cell k4⟩ | exact ⟨X6.cell k1,X6.cell k2,X6.cell k3,X6.cell k4⟩ | exact ⟨R.out.far _ _ _ _ _ (by omega) (X6.cell k1),R.out.far _ _ _ _ _ (by omega) (X6.cell k2),R.out.far _ _ _ _ _ (by omega) (X6.cell k3),R.out.far _ _ _ _ _ (by omega) (X6.cell k4)⟩ | go_keep)
  (first
  | (go_at_call 141; refine (HOP.out _ (by exact HX.drew)).mono ?_; rintro e w5 ⟨r,rfl,hr,Y5⟩; have X5:Ext W3 w5:=(Ext.refl W3).drew.trans Y5; obtain ⟨q5,ao5,l5,c5,rfl,_,_,_⟩:=hr.opn; have HR5:=Lib.hid hr; clear hr)
  | (go_at_call 121; refine (HAD.out _ _ (by exact HX.trans X5) HR5.out).mono ?_; rintro e w6 ⟨u,rfl,hu,Y6⟩; have X6:Ext W3 w6:=X5.trans Y6; obtain ⟨q6,ao6,l6,c6,rfl,_,_,_⟩:=hu.opn; have R:=HRES.out _ X6; have f0:=R.f0; have c0:=R.c0; have f1:=R.f1; have c1:=R.c1; have R:=Lib.hid R; have HU:=Lib.hid hu; clear hu))
 all_goals
  go_wp2_with fail
  refine bodyPost_ret (v:=.agg #[.bool q6,.slice ao6 l6 c6]) (by simp [results,Tryz.results169,go_sem,R.out.d0,R.out.d1]) rfl ?_
  exact ⟨_,rfl,R.out.int _ _ HU.out,R.out.ext _ _⟩
set_option maxHeartbeats 1600000 in
set_option maxRecDepth 100000 in
theorem intCmp_any (u v:Value) (y z:Int) (w:World) (hu:IntV w u y) (hv:IntV w v z) (hl:(dig y.natAbs).length ≤ 1073741824) (hl2:(dig z.natAbs).length ≤ 1073741824) :
 Calls Tryz.prog 142 #[u,v] w fun e w' => e=.returned (.int .i64 (y - z).sign) ∧ Ext w w':=by
 have HSB:=Lib.hid (fun W (hx:Ext w W) => intSub_any u v y z W (hu.ext hx) (hv.ext hx) hl hl2)
 obtain ⟨q,ao,l,c,rfl,HQ,HL,HA⟩:=hu.opn
 obtain ⟨q2,ao2,l2,c2,rfl,HQ2,HL2,HA2⟩:=hv.opn
 clear hu hv
 go_enter Tryz.func142,Tryz.ntmps142
 go_wp2_with fail
 refine (HSB.out _ (((Ext.refl w).alloc _).alloc _)).mono ?_
 rintro e w5 ⟨r,rfl,hr,X5⟩
 have HS:=Lib.hid (intSign_any r _ w5 hr)
 go_wp2_with fail
 refine HS.out.mono ?_
 rintro e w6 ⟨rfl,X6⟩
 go_wp2_with fail
 go_ret
 exact ⟨rfl,((((Ext.refl w).alloc _).alloc _).trans X5).trans X6⟩
def QV (w:World) (v:Value) (q:Rat):Prop:=∃ (s:Bool) (ao:Option Addr) (l c:Nat) (ao2:Option Addr) (l2 c2:Nat),v=.agg #[.bool s,.slice ao l c,.slice ao2 l2 c2] ∧
 IntV w (.agg #[.bool s,.slice ao l c]) q.num ∧ l2=(dig q.den).length ∧ NatV w (.slice ao2 l2 c2) q.den
theorem QV.ext {w w':World} {v:Value} {q:Rat} (h:QV w v q) (hx:Ext w w'):QV w' v q:=by
 obtain ⟨s,ao,l,c,ao2,l2,c2,h1,h2,h3,h4⟩:=h
 exact ⟨s,ao,l,c,ao2,l2,c2,h1,h2.ext hx,h3,h4.ext hx⟩
theorem QV.opn {w:World} {v:Value} {q:Rat} (h:QV w v q):∃ (s:Bool) (ao:Option Addr) (l c:Nat) (ao2:Option Addr) (l2 c2:Nat),v=.agg #[.bool s,.slice ao l c,.slice ao2 l2 c2] ∧
 Hid (∀ W,Ext w W → IntV W (.agg #[.bool s,.slice ao l c]) q.num) ∧ Hid (l2=(dig q.den).length) ∧ Hid (∀ W,Ext w W → NatV W (.slice ao2 l2 c2) q.den):=by
 obtain ⟨s,ao,l,c,ao2,l2,c2,h1,h2,h3,h4⟩:=h
 exact ⟨s,ao,l,c,ao2,l2,c2,h1,fun W hx => h2.ext hx,h3,fun W hx => h4.ext hx⟩
theorem natInt {w:World} {ao:Option Addr} {l c n:Nat} (h:NatV w (.slice ao l c) n):IntV w (.agg #[.bool false,.slice ao l c]) (n:Int):=by
 have h0:=h
 obtain ⟨ao2,c2,e,_,_⟩:=h.open
 simp only [Value.slice.injEq] at e
 exact intV_mk h0 e.2.1 rfl (by simp)
structure Res3 (w:World) (g:Nat) (w2:World):Prop where
 f0:w2.frozen? ⟨g,0,none⟩=false
 c0:w2.cell? ⟨g,0,none⟩=some (.bool false)
 f1:∀ x,(w2.setCell ⟨g,0,none⟩ x).frozen? ⟨g,1,none⟩=false
 c1:∀ x,(w2.setCell ⟨g,0,none⟩ x).cell? ⟨g,1,none⟩=some (.slice none 0 0)
 f2:∀ x y,((w2.setCell ⟨g,0,none⟩ x).setCell ⟨g,1,none⟩ y).frozen? ⟨g,2,none⟩=false
 c2:∀ x y,((w2.setCell ⟨g,0,none⟩ x).setCell ⟨g,1,none⟩ y).cell? ⟨g,2,none⟩=some (.slice none 0 0)
 d0:∀ x y z,(((w2.setCell ⟨g,0,none⟩ x).setCell ⟨g,1,none⟩ y).setCell ⟨g,2,none⟩ z).cell? ⟨g,0,none⟩=some x
 d1:∀ x y z,(((w2.setCell ⟨g,0,none⟩ x).setCell ⟨g,1,none⟩ y).setCell ⟨g,2,none⟩ z).cell? ⟨g,1,none⟩=some y
 d2:∀ x y z,(((w2.setCell ⟨g,0,none⟩ x).setCell ⟨g,1,none⟩ y).setCell ⟨g,2,none⟩ z).cell? ⟨g,2,none⟩=some z
 ext:∀ x y z,Ext w (((w2.setCell ⟨g,0,none⟩ x).setCell ⟨g,1,none⟩ y).setCell ⟨g,2,none⟩ z)
 nat:∀ x y z (v:Value) (n:Nat),NatV w2 v n → NatV (((w2.setCell ⟨g,0,none⟩ x).setCell ⟨g,1,none⟩ y).setCell ⟨g,2,none⟩ z) v n
 far:∀ x y z (b i:Nat) (v:Value),b ≠ g → w2.cell? ⟨b,i,none⟩=some v → (((w2.setCell ⟨g,0,none⟩ x).setCell ⟨g,1,none⟩ y).setCell ⟨g,2,none⟩ z).cell? ⟨b,i,none⟩=some v
theorem res3 {w w0 w2:World} {g:Nat} {t:TypeId} (hg:g=w0.heap.size) (h0:Ext w w0) (X:Ext (w0.alloc (.cells #[.bool false,.slice none 0 0,.slice none 0 0] t)) w2):Res3 w g w2:=by
 subst hg
 have hO:=own_ext (World.ownsRow_lit (base:=w0.heap.size) (e:=t) (size:=1) w0 #[.bool false,.slice none 0 0,.slice none 0 0] 3 (Nat.le_refl _) (by unfold maxLen; omega) (by simp)) X
 have hX:Ext w w2:=(h0.alloc _).trans X
 have hs:=h0.size
 have hb:w2.heap[w0.heap.size]?=some (.cells #[.bool false,.slice none 0 0,.slice none 0 0] t):=by
  rw [X.block _ (by show w0.heap.size < (w0.heap.push _).size; rw [Array.size_push]; omega)]; exact Array.getElem?_push_size
 have s1:=fun x => hO.stored 0 x
 have s2:=fun x y => (s1 x).1.stored 1 y
 have s3:=fun x y z => (s2 x y).1.stored 2 z
 exact {
  f0:=hO.frozenAt 0
  c0:=own_cell hO (j:=0) (x:=.bool false) rfl
  f1:=fun x => (s1 x).1.frozenAt 1
  c1:=fun x => own_cell (s1 x).1 (j:=1) (x:=.slice none 0 0) rfl
  f2:=fun x y => (s2 x y).1.frozenAt 2
  c2:=fun x y => own_cell (s2 x y).1 (j:=2) (x:=.slice none 0 0) rfl
  d0:=fun x y z => own_cell (s3 x y z).1 (j:=0) (x:=x) rfl
  d1:=fun x y z => own_cell (s3 x y z).1 (j:=1) (x:=y) rfl
  d2:=fun x y z => own_cell (s3 x y z).1 (j:=2) (x:=z) rfl
  ext:=fun x y z => ((hX.setCell (p:=⟨w0.heap.size,0,none⟩) hs x).setCell (p:=⟨w0.heap.size,1,none⟩) hs y).setCell (p:=⟨w0.heap.size,2,none⟩) hs z
  far:=fun x y z b i v hne hc => (s3 x y z).2.cell ((s2 x y).2.cell ((s1 x).2.cell hc (fun e => hne (Option.some.inj e))) (fun e => hne (Option.some.inj e))) (fun e => hne (Option.some.inj e))
  nat:=fun x y z v n hv => by
   have ha:=nat_away hv hb (by
    intro i d
    match i with
    | 0 => simp [encD]
    | 1 => simp [encD]
    | 2 => simp [encD]
    | i + 3 => simp)
   exact ((hv.kept (s1 x).2 ha).kept (s2 x y).2 ha).kept (s3 x y z).2 ha }
theorem Res3.q {w w2:World} {g:Nat} (h:Res3 w g w2) (x y z:Value) {v:Value} {q:Rat} (hv:QV w2 v q):QV (((w2.setCell ⟨g,0,none⟩ x).setCell ⟨g,1,none⟩ y).setCell ⟨g,2,none⟩ z) v q:=by
 obtain ⟨s,ao,l,c,ao2,l2,c2,h1,⟨qq,ao',l',c',g1,g2,g3,g4⟩,h3,h4⟩:=hv
 exact ⟨s,ao,l,c,ao2,l2,c2,h1,⟨qq,ao',l',c',g1,g2,g3,h.nat _ _ _ _ _ g4⟩,h3,h.nat _ _ _ _ _ h4⟩
theorem frac_num {y z:Int} (hz:z ≠ 0):sg (decide (y < 0) != decide (z < 0)) (y.natAbs / Nat.gcd y.natAbs z.natAbs)=(Rat.divInt y z).num:=by
 rw [Rat.num_divInt]
 have hg:Int.gcd z y=Nat.gcd y.natAbs z.natAbs:=Nat.gcd_comm ..
 rw [hg]
 have hg0:0 < Nat.gcd y.natAbs z.natAbs:=Nat.gcd_pos_of_pos_right _ (by omega)
 obtain ⟨k,hk⟩:=Nat.gcd_dvd_left y.natAbs z.natAbs
 generalize Nat.gcd y.natAbs z.natAbs=g at *
 rw [hk,Nat.mul_div_cancel_left _ hg0]
 have hgi:(g:Int) ≠ 0:=by omega
 have hgk:((g * k:Nat):Int)=(g:Int) * (k:Int):=Int.natCast_mul ..
 unfold sg
 rcases Int.lt_or_gt_of_ne hz with h | h
 · rw [Int.sign_eq_neg_one_of_neg h,decide_eq_true h]
   by_cases hy:y < 0
   · rw [decide_eq_true hy,show (-1:Int) * y=(g:Int) * (k:Int) by omega,Int.mul_ediv_cancel_left _ hgi]; simp
   · rw [decide_eq_false hy,show (-1:Int) * y=(g:Int) * (-(k:Int)) by rw [Int.mul_neg]; omega,Int.mul_ediv_cancel_left _ hgi]; simp
 · rw [Int.sign_eq_one_of_pos h,decide_eq_false (show ¬ z < 0 by omega)]
   by_cases hy:y < 0
   · rw [decide_eq_true hy,show (1:Int) * y=(g:Int) * (-(k:Int)) by rw [Int.mul_neg]; omega,Int.mul_ediv_cancel_left _ hgi]; simp
   · rw [decide_eq_false hy,show (1:Int) * y=(g:Int) * (k:Int) by omega,Int.mul_ediv_cancel_left _ hgi]; simp
theorem frac_den {y z:Int} (hz:z ≠ 0):z.natAbs / Nat.gcd y.natAbs z.natAbs=(Rat.divInt y z).den:=by
 rw [Rat.den_divInt,if_neg hz,show Int.gcd z y=Nat.gcd y.natAbs z.natAbs from Nat.gcd_comm ..]
set_option maxHeartbeats 3200000 in
set_option maxRecDepth 100000 in
theorem frac_any (u v:Value) (y z:Int) (w:World) (hu:IntV w u y) (hv:IntV w v z) (hz:z ≠ 0) (hl:(dig y.natAbs).length ≤ 1073741823) (hl2:(dig z.natAbs).length ≤ 1073741823) :
 Calls Tryz.prog 119 #[u,v] w fun e w' => ∃ r,e=.returned r ∧ QV w' r (Rat.divInt y z) ∧ Ext w w':=by
 obtain ⟨q,ao,l,c,rfl,HQ,HL,HA⟩:=hu.opn
 obtain ⟨q2,ao2,l2,c2,rfl,HQ2,HL2,HA2⟩:=hv.opn
 have hn:=frac_num (y:=y) hz
 have hd:=frac_den (y:=y) hz
 have HG:=Lib.hid (fun W (hx:Ext w W) => gcd_any (.slice ao l c) (.slice ao2 l2 c2) y.natAbs z.natAbs W (HA.out W hx) (HA2.out W hx) hl hl2)
 have hg0:0 < Nat.gcd y.natAbs z.natAbs:=Nat.gcd_pos_of_pos_right _ (by omega)
 obtain ⟨g,hg⟩:∃ g,Nat.gcd y.natAbs z.natAbs=g:=⟨_,rfl⟩
 rw [hg] at hn hd hg0 HG
 have HD1:=Lib.hid (fun (a:Value) W (hx:Ext w W) (ha:NatV W a g) => div_any (.slice ao l c) a y.natAbs g W (HA.out W hx) ha hg0 hl)
 have HD2:=Lib.hid (fun (a:Value) W (hx:Ext w W) (ha:NatV W a g) => div_any (.slice ao2 l2 c2) a z.natAbs g W (HA2.out W hx) ha hg0 hl2)
 have HM:=Lib.hid (fun (a:Value) W (ha:NatV W a (y.natAbs / g)) => by
  have:=made_any (q != q2) a _ W ha
  rw [HQ.out,HQ2.out,hn,← HQ.out,← HQ2.out] at this
  exact this)
 unfold DivPost at HD1 HD2
 rw [hd] at HD2
 generalize Rat.divInt y z=Q at *
 obtain ⟨yn,hyn⟩:∃ yn,y.natAbs / g=yn:=⟨_,rfl⟩
 rw [hyn] at HD1 HM
 clear hu hv hn hd hyn hg hg0
 go_enter Tryz.func119,Tryz.ntmps119
 go_wp2_with fail
 obtain ⟨W3,hW3⟩:∃ W3,((w.alloc (.cells #[.bool q,.slice ao l c] 87)).alloc (.cells #[.bool q2,.slice ao2 l2 c2] 87)).alloc (.cells #[.bool false,.slice none 0 0,.slice none 0 0] 89)=W3:=⟨_,rfl⟩
 have HRES:=Lib.hid (fun w2 (X:Ext W3 w2) => res3 (w:=w) (w2:=w2) (g:=w.heap.size + 2) (t:=89) (by simp) (((Ext.refl w).alloc (.cells #[.bool q,.slice ao l c] 87)).alloc (.cells #[.bool q2,.slice ao2 l2 c2] 87)) (by rw [hW3]; exact X))
 have k1:W3.cell? ⟨w.heap.size,0,none⟩=some (.bool q):=by rw [← hW3]; simp [go_sem]
 have k2:W3.cell? ⟨w.heap.size,1,none⟩=some (.slice ao l c):=by rw [← hW3]; simp [go_sem]
 have k3:W3.cell? ⟨w.heap.size + 1,0,none⟩=some (.bool q2):=by rw [← hW3]; simp [go_sem]
 have k4:W3.cell? ⟨w.heap.size + 1,1,none⟩=some (.slice ao2 l2 c2):=by rw [← hW3]; simp [go_sem]
 have HX:Ext w W3:=by rw [← hW3]; exact (((Ext.refl w).alloc _).alloc _).alloc _
 rw [hW3]
 clear hW3
 refine (HG.out _ HX).mono ?_
 rintro e w4 ⟨gv,rfl,hg,X4⟩
 obtain ⟨gao,gl,gc,rfl,_,HGV⟩:=hg.opn
 have j2:=X4.cell k2
 clear hg
 go_wp2_with fail
 refine (HD1.out _ _ (HX.trans X4) HGV.out).mono ?_
 rintro e w5 ⟨nv,nr,rfl,hnv,hnr,X5⟩
 have HNV:=Lib.hid hnv
 have X45:=X4.trans X5
 have j4:=X45.cell k4
 clear hnv hnr j2
 go_wp2_with fail
 refine (HD2.out _ _ (HX.trans X45) (HGV.out.ext X5)).mono ?_
 rintro e w6 ⟨dv,dr,rfl,hdv,hdr,X6⟩
 obtain ⟨dao,dl,dc,rfl,HDL,HDV⟩:=hdv.opn
 have X46:=X45.trans X6
 have j1:=X46.cell k1
 have j3:=X46.cell k3
 clear hdv hdr j4
 go_wp2_with fail
 refine (HM.out _ _ (HNV.out.ext X6)).mono ?_
 rintro e w7 ⟨mv,rfl,hmv,X7⟩
 obtain ⟨s7,ao7,l7,c7,rfl,_,_,_⟩:=hmv.opn
 have R:=HRES.out _ (X46.trans X7)
 have f0:=R.f0
 have c0:=R.c0
 have f1:=R.f1
 have c1:=R.c1
 have f2:=R.f2
 have c2':=R.c2
 have R:=Lib.hid R
 have HQV:Hid (QV w7 (.agg #[.bool s7,.slice ao7 l7 c7,.slice dao dl dc]) Q):=⟨s7,ao7,l7,c7,dao,dl,dc,rfl,hmv,HDL.out,HDV.out.ext X7⟩
 clear hmv j1 j3
 go_wp2_with fail
 refine bodyPost_ret (v:=.agg #[.bool s7,.slice ao7 l7 c7,.slice dao dl dc]) (by simp [results,Tryz.results119,go_sem,R.out.d0,R.out.d1,R.out.d2]) rfl ?_
 exact ⟨_,rfl,R.out.q _ _ _ HQV.out,R.out.ext _ _ _⟩
def QB (q:Rat):Prop:=(dig q.num.natAbs).length ≤ 100000000 ∧ (dig q.den).length ≤ 100000000
theorem dig_len_mul {n m a b:Nat} (hn:(dig n).length ≤ a) (hm:(dig m).length ≤ b):(dig (n * m)).length ≤ a + b:=by
 apply dig_len_lt
 rw [Nat.pow_add]
 have h1:n < 4294967296 ^ a:=Nat.lt_of_lt_of_le (lt_dig_len n) (Nat.pow_le_pow_right (by omega) hn)
 have h2:m < 4294967296 ^ b:=Nat.lt_of_lt_of_le (lt_dig_len m) (Nat.pow_le_pow_right (by omega) hm)
 calc n * m ≤ n * 4294967296 ^ b:=Nat.mul_le_mul_left _ (Nat.le_of_lt h2)
  _ < _:=Nat.mul_lt_mul_of_pos_right h1 (Nat.pow_pos (by omega))
theorem dig_len_add {n m a:Nat} (hn:(dig n).length ≤ a) (hm:(dig m).length ≤ a):(dig (n + m)).length ≤ a + 1:=by
 apply dig_len_lt
 rw [Nat.pow_succ]
 have h1:n < 4294967296 ^ a:=Nat.lt_of_lt_of_le (lt_dig_len n) (Nat.pow_le_pow_right (by omega) hn)
 have h2:m < 4294967296 ^ a:=Nat.lt_of_lt_of_le (lt_dig_len m) (Nat.pow_le_pow_right (by omega) hm)
 omega
theorem dig_len_mulI {y z:Int} {a b:Nat} (hn:(dig y.natAbs).length ≤ a) (hm:(dig z.natAbs).length ≤ b):(dig (y * z).natAbs).length ≤ a + b:=by
 rw [Int.natAbs_mul]; exact dig_len_mul hn hm
theorem dig_len_addI {y z:Int} {a:Nat} (hn:(dig y.natAbs).length ≤ a) (hm:(dig z.natAbs).length ≤ a):(dig (y + z).natAbs).length ≤ a + 1 :=
 Nat.le_trans (dig_len_le (Int.natAbs_add_le y z)) (dig_len_add hn hm)
theorem rat_add (a b:Rat):Rat.divInt (a.num * b.den + b.num * a.den) ((a.den * b.den:Nat):Int)=a + b:=by
 rw [Rat.divInt_ofNat,← Rat.add_def']
theorem rat_mul (a b:Rat):Rat.divInt (a.num * b.num) ((a.den * b.den:Nat):Int)=a * b:=by
 rw [Rat.divInt_ofNat,← Rat.mul_def']
theorem rat_div (a b:Rat):Rat.divInt (a.num * b.den) (b.num * a.den)=a / b:=by
 rw [Rat.div_def,Rat.inv_def]
 conv => rhs; rw [← Rat.num_divInt_den a]
 rw [Rat.divInt_mul_divInt,Int.mul_comm b.num]
set_option maxHeartbeats 3200000 in
set_option maxRecDepth 100000 in
theorem qAdd_any (u v:Value) (a b:Rat) (w:World) (hu:QV w u a) (hv:QV w v b) (ha:QB a) (hb:QB b) :
 Calls Tryz.prog 73 #[u,v] w fun e w' => ∃ r,e=.returned r ∧ QV w' r (a + b) ∧ Ext w w':=by
 have QA:=Lib.hid (fun W (hx:Ext w W) => hu.ext hx)
 have QBB:=Lib.hid (fun W (hx:Ext w W) => hv.ext hx)
 obtain ⟨q,ao,l,c,bo,m,d,rfl,HN1,_,HD1⟩:=hu.opn
 obtain ⟨q2,ao2,l2,c2,bo2,m2,d2,rfl,HN2,_,HD2⟩:=hv.opn
 have da0:=a.den_pos
 have db0:=b.den_pos
 have HM1:=Lib.hid (fun W (hx:Ext w W) => intMul_any _ _ a.num (b.den:Int) W (HN1.out W hx) (natInt (HD2.out W hx)) (by have:=ha.1; omega) (by have:=hb.2; rw [Int.natAbs_natCast]; omega))
 have HM2:=Lib.hid (fun W (hx:Ext w W) => intMul_any _ _ b.num (a.den:Int) W (HN2.out W hx) (natInt (HD1.out W hx)) (by have:=hb.1; omega) (by have:=ha.2; rw [Int.natAbs_natCast]; omega))
 have s1:(dig (a.num * (b.den:Int)).natAbs).length ≤ 200000000:=dig_len_mulI (a:=100000000) (b:=100000000) ha.1 (by rw [Int.natAbs_natCast]; exact hb.2)
 have s2:(dig (b.num * (a.den:Int)).natAbs).length ≤ 200000000:=dig_len_mulI (a:=100000000) (b:=100000000) hb.1 (by rw [Int.natAbs_natCast]; exact ha.2)
 have HNM:=Lib.hid (fun W (hx:Ext w W) => mul_any _ _ a.den b.den W (HD1.out W hx) (HD2.out W hx) (by have:=ha.2; omega) (by have:=hb.2; omega))
 have s4:(dig (a.den * b.den)).length ≤ 200000000:=dig_len_mul (a:=100000000) (b:=100000000) ha.2 hb.2
 have hdd:((a.den * b.den:Nat):Int) ≠ 0:=by have:=Nat.mul_pos da0 db0; omega
 have s3:=dig_len_addI s1 s2
 have HAD:=Lib.hid (fun (x y:Value) W hx hy => intAdd_any x y (a.num * (b.den:Int)) (b.num * (a.den:Int)) W hx hy (by omega) (by omega))
 have HFR:=Lib.hid (fun (x y:Value) W hx hy => by
  have:=frac_any x y (a.num * (b.den:Int) + b.num * (a.den:Int)) ((a.den * b.den:Nat):Int) W hx hy hdd (by omega) (by rw [Int.natAbs_natCast]; omega)
  rw [rat_add] at this
  exact this)
 clear hu hv hdd s1 s2 s3 s4 ha hb da0 db0
 go_enter Tryz.func73,Tryz.ntmps73
 go_wp2_with fail
 obtain ⟨W3,hW3⟩:∃ W3,(((w.alloc (.cells #[.bool q,.slice ao l c,.slice bo m d] 89)).alloc (.cells #[.bool q2,.slice ao2 l2 c2,.slice bo2 m2 d2] 89)).alloc (.cells #[.bool false,.slice none 0 0,.slice none 0 0] 89))=W3:=⟨_,rfl⟩
 have HRES:=Lib.hid (fun w2 (X:Ext W3 w2) => res3 (w:=w) (w2:=w2) (g:=w.heap.size + 2) (t:=89) (by simp) (((Ext.refl w).alloc (.cells #[.bool q,.slice ao l c,.slice bo m d] 89)).alloc (.cells #[.bool q2,.slice ao2 l2 c2,.slice bo2 m2 d2] 89)) (by rw [hW3]; exact X))
 have k1:W3.cell? ⟨w.heap.size,0,none⟩=some (.bool q):=by rw [← hW3]; simp [go_sem]
 have k2:W3.cell? ⟨w.heap.size,1,none⟩=some (.slice ao l c):=by rw [← hW3]; simp [go_sem]
 have k3:W3.cell? ⟨w.heap.size,2,none⟩=some (.slice bo m d):=by rw [← hW3]; simp [go_sem]
 have k4:W3.cell? ⟨w.heap.size + 1,0,none⟩=some (.bool q2):=by rw [← hW3]; simp [go_sem]
 have k5:W3.cell? ⟨w.heap.size + 1,1,none⟩=some (.slice ao2 l2 c2):=by rw [← hW3]; simp [go_sem]
 have k6:W3.cell? ⟨w.heap.size + 1,2,none⟩=some (.slice bo2 m2 d2):=by rw [← hW3]; simp [go_sem]
 have HX:Ext w W3:=by rw [← hW3]; exact (((Ext.refl w).alloc _).alloc _).alloc _
 rw [hW3]
 clear hW3
 go_region_held3 (fun w' => w'.cell? ⟨w.heap.size,0,none⟩=some (.bool q) ∧ w'.cell? ⟨w.heap.size,1,none⟩=some (.slice ao l c) ∧ w'.cell? ⟨w.heap.size,2,none⟩=some (.slice bo m d) ∧ w'.cell? ⟨w.heap.size + 1,0,none⟩=some (.bool q2) ∧ w'.cell? ⟨w.heap.size + 1,1,none⟩=some (.slice ao2 l2 c2) ∧ w'.cell? ⟨w.heap.size + 1,2,none⟩=some (.slice bo2 m2 d2)) (first | exact ⟨k1,k2,k3,k4,k5,k6⟩ | exact ⟨X5.cell k1,X5.cell k2,X5.cell k3,X5.cell k4,X5.cell k5,X5.cell k6⟩ | exact ⟨X6.cell k1,X6.cell k2,X6.cell k3,X6.cell k4,X6.cell k5,X6.cell k6⟩ | exact ⟨X7.cell k1,X7.cell k2,X7.cell k3,X7.cell k4,X7.cell k5,X7.cell k6⟩ | exact ⟨X8.cell k1,X8.cell k2,X8.cell k3,X8.cell k4,X8.cell k5,X8.cell k6⟩ | exact ⟨X9.cell k1,X9.cell k2,X9.cell k3,X9.cell k4,X9.cell k5,X9.cell k6⟩ | exact ⟨R.out.far _ _ _ _ _ _ (by omega) (X9.cell k1),R.out.far _ _ _ _ _ _ (by omega) (X9.cell k2),R.out.far _ _ _ _ _ _ (by omega) (X9.cell k3),R.out.far _ _ _ _ _ _ (by omega) (X9.cell k4),R.out.far _ _ _ _ _ _ (by omega) (X9.cell k5),R.out.far _ _ _ _ _ _ (by omega) (X9.cell k6)⟩ | go_keep)
  (first
  | (go_at_call_of 120 (Value.agg #[.bool q,.slice ao l c]); refine (HM1.out _ (by exact HX.drew)).mono ?_; rintro e w5 ⟨r5,rfl,hr5,Y5⟩; have X5:Ext W3 w5:=(Ext.refl W3).drew.trans Y5; obtain ⟨q15,ao15,l15,c15,rfl,_,_,_⟩:=hr5.opn; have HR5:=Lib.hid hr5; clear hr5)
  | (go_at_call_of 120 (Value.agg #[.bool q2,.slice ao2 l2 c2]); refine (HM2.out _ (by exact HX.trans X5)).mono ?_; rintro e w6 ⟨r6,rfl,hr6,Y6⟩; have X6:Ext W3 w6:=X5.trans Y6; obtain ⟨q16,ao16,l16,c16,rfl,_,_,_⟩:=hr6.opn; have HR6:=Lib.hid hr6; clear hr6)
  | (go_at_call 121; refine (HAD.out _ _ _ (HR5.out.ext Y6) HR6.out).mono ?_; rintro e w7 ⟨r7,rfl,hr7,Y7⟩; have X7:Ext W3 w7:=X6.trans Y7; obtain ⟨q17,ao17,l17,c17,rfl,_,_,_⟩:=hr7.opn; have HR7:=Lib.hid hr7; clear hr7)
  | (go_at_call 122; refine (HNM.out _ (by exact HX.trans X7)).mono ?_; rintro e w8 ⟨r8,rfl,hr8,Y8⟩; have X8:Ext W3 w8:=X7.trans Y8; obtain ⟨ao18,l18,c18,rfl,_,HR8⟩:=hr8.opn; clear hr8)
  | (go_at_call 119; refine (HFR.out _ _ _ (HR7.out.ext Y8) (natInt HR8.out)).mono ?_; rintro e w9 ⟨r9,rfl,hr9,Y9⟩; have X9:Ext W3 w9:=X8.trans Y9; obtain ⟨s19,ao19,l19,c19,bo19,m19,d19,rfl,_,_,_⟩:=hr9.opn; have HR9:=Lib.hid hr9; clear hr9; have R:=HRES.out _ X9; have f0:=R.f0; have c0:=R.c0; have f1:=R.f1; have c1:=R.c1; have f2:=R.f2; have e2:=R.c2; have R:=Lib.hid R))
 all_goals
  go_wp2_with fail
  refine bodyPost_ret (v:=.agg #[.bool s19,.slice ao19 l19 c19,.slice bo19 m19 d19]) (by simp [results,Tryz.results73,go_sem,R.out.d0,R.out.d1,R.out.d2]) rfl ?_
  exact ⟨_,rfl,R.out.q _ _ _ HR9.out,R.out.ext _ _ _⟩
end Go.Proofs.YtcggohkbmhdohaaGreatDoor
