/- texts merged: TrK TrL TrN TrO -/
import Derived.Test.YtcggohkbmhdohaaGreatDoorTrFJ
import Derived.Test.YtcggohkbmhdohaaGreatDoorSlB
import Derived.Test.YtcggohkbmhdohaaGreatDoorMpPr
import Derived.Test.YtcggohkbmhdohaaGreatDoorMk
import Derived.DeepKeys5
import Derived.Test.YtcggohkbmhdohaaGreatDoorTwS
namespace Go.Proofs.YtcggohkbmhdohaaGreatDoor
open Go.RowKit
set_option linter.unusedVariables false
set_option maxHeartbeats 1600000 in
set_option maxRecDepth 100000 in
theorem childClo_any (k:Int) (i n g h:Nat) (ao:Option Addr) (c:Nat) (w:World) (hg:w.cell? ⟨g,0,none⟩=some (.int .i64 (i:Int))) (hh:w.cell? ⟨h,0,none⟩=some (.slice ao n c)) :
 Calls Tryz.prog 168 #[.int .i64 k,.pointer (some ⟨g,0,none⟩),.pointer (some ⟨h,0,none⟩)] w fun e w' => e=.returned (.bool (outB n i k)) ∧ Ext w w':=by
 by_cases h1:k ≤ (i:Int)
 · have hq:outB n i k=true:=by unfold outB; rw [decide_eq_true h1]; rfl
   rw [hq]
   clear hq
   go_enter Tryz.func168,Tryz.ntmps168
   go_wp2_with fail
   go_ret
   exact ⟨rfl,Ext.refl _⟩
 · by_cases h2:(n:Int) ≤ k
   · have hq:outB n i k=true:=by unfold outB; rw [decide_eq_true h2,Bool.or_true]
     rw [hq]
     clear hq
     go_enter Tryz.func168,Tryz.ntmps168
     go_wp2_with fail
     go_ret
     exact ⟨rfl,Ext.refl _⟩
   · have hq:outB n i k=false:=outB_false (by omega) (by omega)
     rw [hq]
     clear hq
     go_enter Tryz.func168,Tryz.ntmps168
     go_wp2_with fail
     go_ret
     exact ⟨rfl,Ext.refl _⟩
set_option maxHeartbeats 1600000 in
set_option maxRecDepth 100000 in
theorem children_any (v:Value) (T:List Nd) (i:Nat) (x:Nd) (w:World) (hv:TreeIn w v T) (hx:Hid (T[i]?=some x)) :
 Calls Tryz.prog 138 #[v,.int .i64 (i:Int)] w fun e w' => e=.returned (.int .i64 (nextE T.length i x.next)) ∧ Ext w w':=by
 obtain ⟨ao,c,rfl,hlen,hn⟩:=hv.open
 obtain ⟨b,off,no,nc,oo,oc,rfl,c0,c1,c2,c3,c4,c5,hno,_,hni⟩:=hn.at hx
 have hi:i < T.length:=Valid.lt hx.out
 have hii:(i:Int) < (T.length:Int):=by omega
 obtain ⟨l,hl⟩:∃ l,x.next=l:=⟨_,rfl⟩
 rw [hl] at c3 hni ⊢
 obtain ⟨N,hN⟩:∃ N,T.length=N:=⟨_,rfl⟩
 rw [hN] at hii ⊢
 have XA:Ext w ((w.alloc (.cells #[.slice (some ⟨b,off,none⟩) N c] 22)).alloc (.cells #[.int .i64 (i:Int)] 3)):=((Ext.refl w).alloc _).alloc _
 have c3:=XA.cell c3
 have k1:((w.alloc (.cells #[.slice (some ⟨b,off,none⟩) N c] 22)).alloc (.cells #[.int .i64 (i:Int)] 3)).cell? ⟨w.heap.size,0,none⟩=some (.slice (some ⟨b,off,none⟩) N c):=((Ext.refl _).alloc _).cell (by simp [World.cell?_alloc_new])
 have k2:((w.alloc (.cells #[.slice (some ⟨b,off,none⟩) N c] 22)).alloc (.cells #[.int .i64 (i:Int)] 3)).cell? ⟨w.heap.size + 1,0,none⟩=some (.int .i64 (i:Int)):=by simp
 have HCF:=Lib.hid (fun (W:World) (hW:Ext ((w.alloc (.cells #[.slice (some ⟨b,off,none⟩) N c] 22)).alloc (.cells #[.int .i64 (i:Int)] 3)) W) =>
  containsFunc_ints (.slice no l.length nc) (l.map (Value.int .i64)) (l.map (outB N i)) 168 #[.pointer (some ⟨w.heap.size + 1,0,none⟩),.pointer (some ⟨w.heap.size,0,none⟩)] W ((hni.ext XA).ext hW) (by simp) (fun _ _ => by kernel_rfl)
   (fun j u q W2 g1 g2 hW2 => by
     rw [List.getElem?_map] at g1 g2
     cases hk:l[j]? with
     | none => rw [hk] at g1; cases g1
     | some k =>
       rw [hk] at g1 g2
       cases g1
       cases g2
       exact childClo_any k i N _ _ _ c W2 ((hW.trans hW2).cell k2) ((hW.trans hW2).cell k1))
   (l.any (outB N i)) (by show _=_; rw [List.any_map]; rfl))
 obtain ⟨Q,hQ⟩:∃ Q,nextE N i l=Q:=⟨_,rfl⟩
 have hqe:=hQ
 unfold nextE at hqe
 rw [hQ]
 obtain ⟨bb,hbb⟩:∃ bb,l.any (outB N i)=bb:=⟨_,rfl⟩
 rw [hbb] at HCF hqe
 clear hn hno hv hx hQ hl c0 c1 c2 c4 c5 hN hi hbb hni XA
 by_cases h0:l.length=0
 · rw [if_pos h0] at hqe
   subst hqe
   have h1:(l.length:Int)=0:=by omega
   clear h0
   go_enter Tryz.func138,Tryz.ntmps138
   go_wp2_with fail
   go_ret
   exact ⟨rfl,((Ext.refl w).alloc _).alloc _⟩
 rw [if_neg h0] at hqe
 have h1:¬ (l.length:Int)=0:=by omega
 by_cases h6:6 < l.length
 · rw [if_pos h6] at hqe
   subst hqe
   have h2:(6:Int) < (l.length:Int):=by omega
   clear h0 h6
   go_enter Tryz.func138,Tryz.ntmps138
   go_wp2_with fail
   go_ret
   exact ⟨rfl,((Ext.refl w).alloc _).alloc _⟩
 rw [if_neg h6] at hqe
 have h2:¬ (6:Int) < (l.length:Int):=by omega
 clear h0 h6
 cases bb with
 | true =>
   rw [if_pos rfl] at hqe
   subst hqe
   go_enter Tryz.func138,Tryz.ntmps138
   go_wp2_with fail
   refine (HCF.out _ (Ext.refl _)).mono ?_
   rintro e w2 ⟨rfl,X2⟩
   go_wp2_with fail
   go_ret
   exact ⟨rfl,Ext.trans (((Ext.refl w).alloc _).alloc _) X2⟩
 | false =>
   rw [if_neg (by simp)] at hqe
   subst hqe
   go_enter Tryz.func138,Tryz.ntmps138
   go_wp2_with fail
   refine (HCF.out _ (Ext.refl _)).mono ?_
   rintro e w2 ⟨rfl,X2⟩
   go_wp2_with fail
   go_ret
   exact ⟨rfl,Ext.trans (((Ext.refl w).alloc _).alloc _) X2⟩
set_option maxHeartbeats 3200000 in
set_option maxRecDepth 100000 in
theorem node_leaf (N i:Nat) (b off:Nat) (c:Nat) (kd pl inf:Int) (no oo:Option Addr) (nl ol nc oc:Nat) (pay:ByteArray) (R E O:Int) (wo:World) (hii:(i:Int) < (N:Int)) (hnl:nl ≤ 17592186044416) (hol:ol ≤ 17592186044416)
 (c0:wo.cell? ⟨b,off + i * 6,none⟩=some (.int .i64 kd)) (c1:wo.cell? ⟨b,off + i * 6 + 1,none⟩=some (.int .i64 pl)) (c2:wo.cell? ⟨b,off + i * 6 + 2,none⟩=some (.int .i64 inf))
 (c3:wo.cell? ⟨b,off + i * 6 + 3,none⟩=some (.slice no nl nc)) (c4:wo.cell? ⟨b,off + i * 6 + 4,none⟩=some (.slice oo ol oc)) (c5:wo.cell? ⟨b,off + i * 6 + 5,none⟩=some (.string pay))
 (HRE:Hid (∀ W,Ext wo W → Calls Tryz.prog 137 #[.string pay] W fun e w' => e=.returned (.int .i64 R) ∧ Ext W w'))
 (HNX:Hid (∀ W,Ext wo W → Calls Tryz.prog 138 #[.slice (some ⟨b,off,none⟩) N c,.int .i64 (i:Int)] W fun e w' => e=.returned (.int .i64 E) ∧ Ext W w'))
 (HOD:Hid (∀ W,Ext wo W → Calls Tryz.prog 78 #[.slice oo ol oc] W fun e w' => e=.returned (.int .i64 O) ∧ Ext W w')) :
 Calls Tryz.prog 100 #[.slice (some ⟨b,off,none⟩) N c,.int .i64 (i:Int)] wo fun e w' => e=.returned (.int .i64 (
  if kd=0 then (if pl ≠ 0 ∨ inf ≠ 0 ∨ nl ≠ 0 ∨ ol ≠ 0 then 3 else R)
  else if kd=1 then (if pl ≠ 0 ∨ inf ≠ 0 ∨ pay.size ≠ 0 then 3 else if E ≠ 0 then E else if ol ≠ nl then 3 else O)
  else if kd=2 then (if ol ≠ 0 ∨ pay.size ≠ 0 then 3 else if (pl ≠ 0 ∧ pl ≠ 1) ∨ inf < 0 ∨ 9 < inf then 4 else E)
  else 1)) ∧ Ext wo w':=by
 have hpt:pay.size ≠ 0 → pay.toList.isEmpty=false:=fun h => by
  rw [List.isEmpty_eq_false_iff]
  intro e
  apply h
  have:=congrArg List.length e
  rw [Lib.toList_data] at this
  simpa using this
 have hpf:pay.size=0 → pay.toList.isEmpty=true:=fun h => by
  have:pay.toList=[]:=by
   rw [Lib.toList_data]
   exact List.eq_nil_of_length_eq_zero (by simpa using h)
  rw [this]; rfl
 have HPT:=Lib.hid hpt
 have HPF:=Lib.hid hpf
 clear hpt hpf
 by_cases k0:kd=0
 · subst k0
   rw [if_pos rfl]
   by_cases p0:pl=0
   · subst p0
     by_cases i0:inf=0
     · subst i0
       by_cases n0:nl=0
       · subst n0
         by_cases o0:ol=0
         · subst o0
           rw [if_neg (by simp)]
           go_enter Tryz.func100,Tryz.ntmps100
           go_wp2_with fail
           refine (HRE.out _ (Ext.alloc (Ext.refl _) _)).mono ?_
           rintro e w2 ⟨rfl,X2⟩
           go_wp2_with fail
           all_goals (go_ret; exact ⟨rfl,(Ext.alloc (Ext.refl _) _).trans X2⟩)
         · rw [if_pos (by omega)]
           have hs:(0:Int) < (ol:Int):=by omega
           clear o0
           go_enter Tryz.func100,Tryz.ntmps100
           go_wp2_with fail
           all_goals (go_ret; exact ⟨rfl,Ext.alloc (Ext.refl _) _⟩)
       · rw [if_pos (by omega)]
         have hs:(0:Int) < (nl:Int):=by omega
         clear n0
         go_enter Tryz.func100,Tryz.ntmps100
         go_wp2_with fail
         all_goals (go_ret; exact ⟨rfl,Ext.alloc (Ext.refl _) _⟩)
     · rw [if_pos (by omega)]
       go_enter Tryz.func100,Tryz.ntmps100
       go_wp2_with fail
       all_goals (go_ret; exact ⟨rfl,Ext.alloc (Ext.refl _) _⟩)
   · rw [if_pos (by omega)]
     go_enter Tryz.func100,Tryz.ntmps100
     go_wp2_with fail
     all_goals (go_ret; exact ⟨rfl,Ext.alloc (Ext.refl _) _⟩)
 rw [if_neg k0]
 by_cases k1:kd=1
 · subst k1
   rw [if_pos rfl]
   by_cases p0:pl=0
   · subst p0
     by_cases i0:inf=0
     · subst i0
       by_cases y0:pay.size=0
       · rw [if_neg (by omega)]
         have hp:=HPF.out y0
         clear y0
         by_cases e0:E=0
         · subst e0
           rw [if_neg (by simp)]
           by_cases l0:ol=nl
           · subst l0
             rw [if_neg (by simp)]
             go_enter Tryz.func100,Tryz.ntmps100
             go_wp2_with fail
             refine (HNX.out _ (Ext.alloc (Ext.refl _) _)).mono ?_
             rintro e w2 ⟨rfl,X2⟩
             have C3:w2.cell? ⟨wo.heap.size,3,none⟩=some (.slice no ol nc):=X2.cell (by simp [World.cell?_alloc_new])
             have C4:w2.cell? ⟨wo.heap.size,4,none⟩=some (.slice oo ol oc):=X2.cell (by simp [World.cell?_alloc_new])
             have Y2:Ext wo w2:=(Ext.alloc (Ext.refl _) _).trans X2
             go_wp2_with fail
             refine (HOD.out _ Y2).mono ?_
             rintro e w3 ⟨rfl,X3⟩
             go_wp2_with fail
             all_goals (go_ret; exact ⟨rfl,Y2.trans X3⟩)
           · rw [if_pos l0]
             have hl:¬ (ol:Int)=(nl:Int):=by omega
             clear l0
             go_enter Tryz.func100,Tryz.ntmps100
             go_wp2_with fail
             refine (HNX.out _ (Ext.alloc (Ext.refl _) _)).mono ?_
             rintro e w2 ⟨rfl,X2⟩
             have C3:w2.cell? ⟨wo.heap.size,3,none⟩=some (.slice no nl nc):=X2.cell (by simp [World.cell?_alloc_new])
             have C4:w2.cell? ⟨wo.heap.size,4,none⟩=some (.slice oo ol oc):=X2.cell (by simp [World.cell?_alloc_new])
             have Y2:Ext wo w2:=(Ext.alloc (Ext.refl _) _).trans X2
             go_wp2_with fail
             all_goals (go_ret; exact ⟨rfl,Y2⟩)
         · rw [if_pos e0]
           have hE:(E != 0)=true:=by simp [e0]
           clear e0
           go_enter Tryz.func100,Tryz.ntmps100
           go_wp2_with fail
           refine (HNX.out _ (Ext.alloc (Ext.refl _) _)).mono ?_
           rintro e w2 ⟨rfl,X2⟩
           have C3:w2.cell? ⟨wo.heap.size,3,none⟩=some (.slice no nl nc):=X2.cell (by simp [World.cell?_alloc_new])
           have C4:w2.cell? ⟨wo.heap.size,4,none⟩=some (.slice oo ol oc):=X2.cell (by simp [World.cell?_alloc_new])
           have Y2:Ext wo w2:=(Ext.alloc (Ext.refl _) _).trans X2
           go_wp2_with fail
           all_goals (go_ret; exact ⟨rfl,Y2⟩)
       · rw [if_pos (by omega)]
         have hp:=HPT.out y0
         clear y0
         go_enter Tryz.func100,Tryz.ntmps100
         go_wp2_with fail
         all_goals (go_ret; exact ⟨rfl,Ext.alloc (Ext.refl _) _⟩)
     · rw [if_pos (by omega)]
       go_enter Tryz.func100,Tryz.ntmps100
       go_wp2_with fail
       all_goals (go_ret; exact ⟨rfl,Ext.alloc (Ext.refl _) _⟩)
   · rw [if_pos (by omega)]
     go_enter Tryz.func100,Tryz.ntmps100
     go_wp2_with fail
     all_goals (go_ret; exact ⟨rfl,Ext.alloc (Ext.refl _) _⟩)
 rw [if_neg k1]
 by_cases k2:kd=2
 · subst k2
   rw [if_pos rfl]
   by_cases o0:ol=0
   · subst o0
     by_cases y0:pay.size=0
     · rw [if_neg (by omega)]
       have hp:=HPF.out y0
       clear y0
       by_cases b0:(pl ≠ 0 ∧ pl ≠ 1) ∨ inf < 0 ∨ 9 < inf
       · rw [if_pos b0]
         by_cases p0:pl=0
         · subst p0
           by_cases i0:inf < 0
           · clear b0
             go_enter Tryz.func100,Tryz.ntmps100
             go_wp2_with fail
             all_goals (go_ret; exact ⟨rfl,Ext.alloc (Ext.refl _) _⟩)
           · have i9:10 ≤ inf:=by omega
             clear b0
             go_enter Tryz.func100,Tryz.ntmps100
             go_wp2_with fail
             all_goals (go_ret; exact ⟨rfl,Ext.alloc (Ext.refl _) _⟩)
         · by_cases p1:pl=1
           · subst p1
             by_cases i0:inf < 0
             · clear b0
               go_enter Tryz.func100,Tryz.ntmps100
               go_wp2_with fail
               all_goals (go_ret; exact ⟨rfl,Ext.alloc (Ext.refl _) _⟩)
             · have i9:10 ≤ inf:=by omega
               clear b0
               go_enter Tryz.func100,Tryz.ntmps100
               go_wp2_with fail
               all_goals (go_ret; exact ⟨rfl,Ext.alloc (Ext.refl _) _⟩)
           · clear b0
             go_enter Tryz.func100,Tryz.ntmps100
             go_wp2_with fail
             all_goals (go_ret; exact ⟨rfl,Ext.alloc (Ext.refl _) _⟩)
       · rw [if_neg b0]
         have i0:¬ inf < 0:=by omega
         have i9:¬ 10 ≤ inf:=by omega
         by_cases p0:pl=0
         · subst p0
           clear b0
           go_enter Tryz.func100,Tryz.ntmps100
           go_wp2_with fail
           refine (HNX.out _ (Ext.alloc (Ext.refl _) _)).mono ?_
           rintro e w2 ⟨rfl,X2⟩
           have Y2:Ext wo w2:=(Ext.alloc (Ext.refl _) _).trans X2
           go_wp2_with fail
           all_goals (go_ret; exact ⟨rfl,Y2⟩)
         · have p1:pl=1:=by omega
           subst p1
           clear b0
           go_enter Tryz.func100,Tryz.ntmps100
           go_wp2_with fail
           refine (HNX.out _ (Ext.alloc (Ext.refl _) _)).mono ?_
           rintro e w2 ⟨rfl,X2⟩
           have Y2:Ext wo w2:=(Ext.alloc (Ext.refl _) _).trans X2
           go_wp2_with fail
           all_goals (go_ret; exact ⟨rfl,Y2⟩)
     · rw [if_pos (by omega)]
       have hp:=HPT.out y0
       clear y0
       go_enter Tryz.func100,Tryz.ntmps100
       go_wp2_with fail
       all_goals (go_ret; exact ⟨rfl,Ext.alloc (Ext.refl _) _⟩)
   · rw [if_pos (by omega)]
     have hl:(0:Int) < (ol:Int):=by omega
     clear o0
     go_enter Tryz.func100,Tryz.ntmps100
     go_wp2_with fail
     all_goals (go_ret; exact ⟨rfl,Ext.alloc (Ext.refl _) _⟩)
 rw [if_neg k2]
 go_enter Tryz.func100,Tryz.ntmps100
 go_wp2_with fail
 all_goals (go_ret; exact ⟨rfl,Ext.alloc (Ext.refl _) _⟩)
theorem node_any (v:Value) (T:List Nd) (i:Nat) (x:Nd) (w:World) (htab:TabPow w) (hv:TreeIn w v T) (hz:TreeSz T) (hx:Hid (T[i]?=some x)) :
 Calls Tryz.prog 100 #[v,.int .i64 (i:Int)] w fun e w' => e=.returned (.int .i64 (nodeE T.length i x)) ∧ Ext w w':=by
 have hxm:=List.mem_of_getElem? hx.out
 have HNX:=Lib.hid (fun W (hX:Ext w W) => children_any v T i x W (hv.ext hX) hx)
 obtain ⟨ao,c,rfl,hlen,hn⟩:=hv.open
 obtain ⟨b,off,no,nc,oo,oc,rfl,c0,c1,c2,c3,c4,c5,hno,hod,hnx⟩:=hn.at hx
 have hi:i < T.length:=Valid.lt hx.out
 obtain ⟨_,_,_,h1,_⟩:=hnx.open
 obtain ⟨_,_,_,h2,_⟩:=hod.open
 exact node_leaf T.length i b off c x.kind x.player x.info no oo x.next.length x.odds.length nc oc x.pay (ratErr x.pay) (nextE T.length i x.next) (oddsE x.odds) w (by omega) h1 h2 c0 c1 c2 c3 c4 c5
  (Lib.hid fun W hX => ratCheck_any x.pay W (hz x hxm).1) HNX (Lib.hid fun W hX => odds_any _ x.odds W (tabPow_ext htab hX) (hod.ext hX) (hz x hxm).2)
def encP (p:Int × Int):Value:=.agg #[.int .i64 p.1,.int .i64 p.2]
def domP (p:Int × Int):Prop:=(Lit.int .i64 p.1).wf=true ∧ (Lit.int .i64 p.2).wf=true
set_option maxRecDepth 100000 in
theorem keyE_p2:KeyE Tryz.prog 101 encP domP where
 keyed:=Maps.Keyed.of_law (deep_law_laid (m:=2) (by kernel_rfl) (by decide) (of_decide_eq_true (by kernel_rfl)) (by kernel_rfl) (by kernel_rfl))
 key p hp:=by
  obtain ⟨a,b⟩:=p
  obtain ⟨ha,hb⟩:=hp
  dsimp only at ha hb
  have hk:Tryz.prog.keyType 101=true:=by kernel_rfl
  have hc:Tryz.prog.cellsOf 101=2:=by kernel_rfl
  have hc1:Tryz.prog.cellsOf 3=1:=by kernel_rfl
  have hd:Tryz.prog.types.size + 1=(Tryz.prog.types.size - 1) + 1 + 1:=by kernel_rfl
  have h1:∀ (x:Int),(Lit.int .i64 x).wf=true → Tryz.prog.keyLits (Tryz.prog.types.size - 1 + 1) 3 [.int .i64 x]=some [.int .i64 x]:=fun x hx => by
   simp [Program.keyLits,Tryz.underlying3,hx]
  have h2:Tryz.prog.keyLits (Tryz.prog.types.size + 1) 101 [.int .i64 a,.int .i64 b]=some [.int .i64 a,.int .i64 b]:=by
   rw [hd]
   have e1:=h1 a ha
   have e2:=h1 b hb
   generalize Tryz.prog.types.size - 1=d at e1 e2 ⊢
   rw [show Tryz.prog.keyLits (d + 1 + 1) 101 [.int .i64 a, .int .i64 b] = (match Tryz.prog.underlying 101, [Value.int .i64 a, Value.int .i64 b] with | some .bool, [.bool b] => some [.bool b] | some (.int q), [.int q' n] => if q' = q ∧ (Lit.int q n).wf = true then some [.int q n] else none | some .string, [.string s] => if s.size ≤ maxLen then some [.string s.data.toList] else none | some (.array n e), cs => if cs.length = Tryz.prog.cellsOf 101 then ((List.range n).mapM fun i => Tryz.prog.keyLits (d + 1) e ((cs.drop (i * Tryz.prog.cellsOf e)).take (Tryz.prog.cellsOf e))).map List.flatten else none | some (.struct fs), cs => if cs.length = Tryz.prog.cellsOf 101 ∧ fs.all (·.name != "_") = true then (fs.toList.mapM fun f => Tryz.prog.keyLits (d + 1) f.type ((cs.drop f.offset).take (Tryz.prog.cellsOf f.type))).map List.flatten else none | _, _ => none) from rfl]
   rw [Tryz.underlying101]
   simp [hc,hc1,e1,e2,List.range_succ]
  have hf:(Value.agg #[.int .i64 a,.int .i64 b]).formed Tryz.prog 101=true:=by simp [Value.formed,Tryz.underlying101,hc]
  unfold keyOf encP
  rw [Tryz.underlying101]
  show ∃ kl,(if (Tryz.prog.keyType 101 && (Value.agg #[.int .i64 a,.int .i64 b]).formed Tryz.prog 101)=true then (Tryz.prog.keyLits (Tryz.prog.types.size + 1) 101 [.int .i64 a,.int .i64 b]).map fun ls => Lit.string (keyBytes ls) else none)=some kl
  rw [hk,hf,h2]
  exact ⟨_,rfl⟩
 inj p q _ _ e:=by
  obtain ⟨a,b⟩:=p
  obtain ⟨c,d⟩:=q
  unfold encP at e
  simp at e
  rw [e.1,e.2]
theorem zeroI (w:World):(zeroValue 3).run Tryz.prog w=.ok (.int .i64 0) w:=by kernel_rfl
theorem wf_small {x:Int} (h1:-9223372036854775808 ≤ x) (h2:x ≤ 9223372036854775807):(Lit.int .i64 x).wf=true:=by
 have e1:IntKind.i64.min=-9223372036854775808:=by decide
 have e2:IntKind.i64.max=9223372036854775807:=by decide
 simp [Lit.wf]
 omega
def cntL (T:List Nd) (i c:Nat):List Int:=(List.range T.length).map fun k:Nat => ((cntT T i c (k:Int):Nat):Int)
theorem cntL_len (T:List Nd) (i c:Nat):(cntL T i c).length=T.length:=by unfold cntL; simp
theorem cntL_zero (T:List Nd):cntL T 0 0=List.replicate T.length 0:=by
 unfold cntL
 rw [List.eq_replicate_iff]
 refine ⟨by simp,fun x hx => ?_⟩
 obtain ⟨k,_,rfl⟩:=List.mem_map.1 hx
 rw [cntT_zero]; rfl
theorem cntL_get {T:List Nd} {i c k:Nat} (hk:k < T.length):(cntL T i c)[k]?=some ((cntT T i c (k:Int):Nat):Int):=by
 unfold cntL
 rw [List.getElem?_map,List.getElem?_range hk]; rfl
theorem cntL_step {T:List Nd} {i c m:Nat} {x:Nd} (hx:T[i]?=some x) (hn:x.next[c]?=some (m:Int)):cntL T i (c + 1)=(cntL T i c).set m (((cntT T i c (m:Int):Nat):Int) + 1):=by
 apply List.ext_getElem?
 intro k
 by_cases hk:k < T.length
 · rw [cntL_get hk,cntT_step hx hn]
   by_cases e:m=k
   · subst e
     rw [List.getElem?_set_self (by rw [cntL_len]; exact hk),if_pos rfl]; simp
   · rw [List.getElem?_set_ne e,cntL_get hk,if_neg (by omega),Nat.add_zero]
 · rw [List.getElem?_eq_none (by rw [cntL_len]; omega),List.getElem?_eq_none (by rw [List.length_set,cntL_len]; omega)]
theorem cntL_next {T:List Nd} {i:Nat} {x:Nd} (hx:T[i]?=some x):cntL T (i + 1) 0=cntL T i x.next.length:=by
 unfold cntL
 refine List.map_congr_left fun k _ => ?_
 rw [cntT_next hx]
theorem cntL_lost {T:List Nd} {i:Nat} (hi:T.length ≤ i):((cntL T i 0).drop 1).any (fun n => n != 1)=lostB T:=by
 unfold cntL lostB
 rw [Bool.eq_iff_iff,List.any_eq_true,List.any_eq_true]
 constructor
 · rintro ⟨x,hx,hb⟩
   obtain ⟨j,hj⟩:=List.mem_iff_getElem?.1 hx
   rw [List.getElem?_drop,List.getElem?_map] at hj
   have hlt:1 + j < T.length:=by
    by_cases h:1 + j < T.length
    · exact h
    · rw [List.getElem?_eq_none (by simp; omega)] at hj; cases hj
   rw [List.getElem?_range hlt] at hj
   have e:=Option.some.inj hj
   refine ⟨1 + j,List.mem_range.2 hlt,?_⟩
   dsimp only at e
   rw [cntT_all hi] at e
   rw [← e,bne_iff_ne] at hb
   have h5:(parents T (((1 + j:Nat)):Int)).length ≠ 1:=by omega
   rw [decide_eq_true (show 0 < 1 + j by omega),decide_eq_true h5]; rfl
 · rintro ⟨k,hk,hb⟩
   have hk:=List.mem_range.1 hk
   simp only [Bool.and_eq_true,decide_eq_true_eq] at hb
   refine ⟨((parents T (k:Int)).length:Int),?_,by rw [bne_iff_ne]; omega⟩
   refine List.mem_iff_getElem?.2 ⟨k - 1,?_⟩
   rw [List.getElem?_drop,List.getElem?_map,show 1 + (k - 1)=k from by omega,List.getElem?_range hk]
   show some ((cntT T i 0 (k:Int):Nat):Int)=_
   rw [cntT_all hi]
theorem cntT_le {T:List Nd} {i c:Nat} (k:Int) (h:∀ x ∈ T.take (i + 1),x.next.length ≤ 6):cntT T i c k ≤ 6 * i + 6:=by
 have h1:=parL_len k (T.take i) 0 (fun x hx => h x (by
  rw [List.take_add_one]
  exact List.mem_append_left _ hx))
 rw [List.length_take] at h1
 unfold cntT
 cases hx:T[i]? with
 | none => dsimp only; omega
 | some x =>
   have h3:=hits_len i k (x.next.take c) 0
   rw [List.length_take] at h3
   have h4:=h x (by rw [List.take_add_one,hx]; simp)
   dsimp only
   omega
theorem nodeE_next {n i:Nat} {x:Nd} (hn:nodeE n i x=0):x.next.length ≤ 6 ∧ (∀ k ∈ x.next,(i:Int) < k ∧ k < (n:Int)) ∧ (x.kind=2 → (x.player=0 ∨ x.player=1) ∧ 0 ≤ x.info ∧ x.info ≤ 9):=by
 unfold nodeE at hn
 by_cases k0:x.kind=0
 · rw [if_pos k0] at hn
   by_cases hb:x.player ≠ 0 ∨ x.info ≠ 0 ∨ x.next.length ≠ 0 ∨ x.odds.length ≠ 0
   · rw [if_pos hb] at hn; cases hn
   · have h0:x.next=[]:=List.eq_nil_of_length_eq_zero (by omega)
     rw [h0]
     exact ⟨Nat.zero_le _,(fun k hk => by cases hk),fun e => by omega⟩
 rw [if_neg k0] at hn
 by_cases k1:x.kind=1
 · rw [if_pos k1] at hn
   by_cases hb:x.player ≠ 0 ∨ x.info ≠ 0 ∨ x.pay.size ≠ 0
   · rw [if_pos hb] at hn; cases hn
   rw [if_neg hb] at hn
   by_cases hx:nextE n i x.next=0
   · exact ⟨(nextE_zero hx).2.1,(nextE_zero hx).2.2,fun e => by omega⟩
   · rw [if_pos hx] at hn; exact absurd hn hx
 rw [if_neg k1] at hn
 by_cases k2:x.kind=2
 · rw [if_pos k2] at hn
   by_cases hb:x.odds.length ≠ 0 ∨ x.pay.size ≠ 0
   · rw [if_pos hb] at hn; cases hn
   rw [if_neg hb] at hn
   by_cases hr:(x.player ≠ 0 ∧ x.player ≠ 1) ∨ x.info < 0 ∨ 9 < x.info
   · rw [if_pos hr] at hn; cases hn
   · rw [if_neg hr] at hn
     exact ⟨(nextE_zero hn).2.1,(nextE_zero hn).2.2,fun _ => by omega⟩
 · rw [if_neg k2] at hn; cases hn
set_option maxHeartbeats 1600000 in
set_option maxRecDepth 100000 in
theorem namedClo_any (k:Int) (w:World):Calls Tryz.prog 102 #[.int .i64 k] w fun e w' => e=.returned (.bool (k != 1)) ∧ Ext w w':=by
 go_enter Tryz.func102,Tryz.ntmps102
 go_wp2_with fail
 go_ret
 exact ⟨rfl,Ext.refl _⟩
set_option maxHeartbeats 6400000 in
set_option maxRecDepth 100000 in
theorem treeCheck_any (v:Value) (T:List Nd) (w:World) (htab:TabPow w) (hv:TreeIn w v T) (hz:TreeSz T) :
 Calls Tryz.prog 57 #[v] w fun e w' => e=.returned (.int .i64 (treeE T)) ∧ Ext w w':=by
 obtain ⟨wo,rfl⟩:∃ wo:World,wo=w:=⟨_,rfl⟩
 have HNE:=Lib.hid (fun i x (hx:Hid (T[i]?=some x)) W (hX:Ext wo W) => node_any v T i x W (tabPow_ext htab hX) (hv.ext hX) hz hx)
 obtain ⟨ao,c,rfl,hlen,hn⟩:=hv.open
 have HN:=Lib.hid hn
 clear hn hv hz htab
 by_cases h1:120 < T.length
 · have hq:treeE T=2:=by unfold treeE; rw [if_pos h1]
   rw [hq]
   have g1:(120:Int) < (T.length:Int):=by omega
   clear h1 hq HNE HN
   go_enter Tryz.func57,Tryz.ntmps57
   go_wp2_with fail
   go_ret
   exact ⟨rfl,Ext.refl _⟩
 by_cases h2:T.length=0
 · have hq:treeE T=8:=by unfold treeE; rw [if_neg h1,if_pos h2]
   rw [hq]
   have g1:(T.length:Int)=0:=by omega
   clear h1 h2 hq HNE HN
   go_enter Tryz.func57,Tryz.ntmps57
   go_wp2_with fail
   go_ret
   exact ⟨rfl,Ext.refl _⟩
 have g1:¬ (120:Int) < (T.length:Int):=by omega
 have g2:¬ (T.length:Int)=0:=by omega
 have g3:T.length ≤ 120:=by omega
 have g4:(1:Int) ≤ (T.length:Int):=by omega
 have hqe:=treeE_nodes h1 h2
 obtain ⟨Q,hQ⟩:∃ Q,treeE T=Q:=⟨_,rfl⟩
 rw [hQ] at hqe ⊢
 have HQ:=Lib.hid hqe
 clear hqe hQ h1 h2
 go_enter Tryz.func57,Tryz.ntmps57
 go_wp2_with (first | (at_make; go_must (refine wp_make1 rfl rfl ei_ints rfl rfl rfl T.length rfl rfl (by omega) (by omega) ?_); intro w2 hO2 hX2))
 have HO2:=Lib.hid hO2
 have hg0:wo.heap.size < w2.heap.size:=(hO2.lt wo.heap.size rfl).2
 clear hO2
 go_loopw [25] (fun iv wr => ∃ (i:Nat),i ≤ T.length ∧ iv=.int .i64 i ∧ Hid (nodesE T.length i (T.drop i)=nodesE T.length 0 T) ∧ Hid (∀ x ∈ T.take i,x.next.length ≤ 6) ∧ Hid (wr.ownsRow wo.heap.size 3 1 (.slice (some ⟨wo.heap.size,0,none⟩) T.length T.length) T.length ((cntL T i 0).map (Value.int .i64))) ∧ Ext wo wr) (fun iv _ => T.length - (intOf iv).toNat)
 case atStart => exact ⟨0,Nat.zero_le _,rfl,by show _=_; rw [List.drop_zero],(fun x hx => by simp at hx),by show World.ownsRow _ _ _ _ _ _ _; rw [cntL_zero,List.map_replicate]; exact HO2.out,hX2⟩
 case round =>
  obtain ⟨i,hi,rfl,HI,HS,HO,X⟩:=hrel
  by_cases hlt:i < T.length
  · obtain ⟨x,d1,d2,d3⟩:=get_lt hlt
    have hii:(i:Int) < (T.length:Int):=by omega
    have HC:=Lib.hid (HNE.out i x d1 wr X)
    have hns:=nodesE_at (n:=T.length) d2
    rw [HI.out] at hns
    have hnx:=@nodeE_next T.length i x
    obtain ⟨E,hE⟩:∃ E,nodeE T.length i x=E:=⟨_,rfl⟩
    rw [hE] at HC hns hnx
    by_cases h0:E=0
    · subst h0
      rw [if_neg (show ¬ ((0:Int) ≠ 0) by simp)] at hns
      have HNS:=Lib.hid hns.symm
      have HNX:=Lib.hid (hnx rfl)
      obtain ⟨b,off,no,nc,oo,oc,rfl,c0,c1,c2,c3,c4,c5,hno,_,_⟩:=HN.out.at d1
      have HNO:=Lib.hid hno
      have HC3:=Lib.hid c3
      have HD1:=Lib.hid d1.out
      have HS2:Hid (∀ y ∈ T.take (i + 1),y.next.length ≤ 6):=fun y hy => by
       rw [d3.out] at hy
       rcases List.mem_append.1 hy with h | h
       · exact HS.out y h
       · rw [List.mem_singleton.1 h]; exact HNX.out.1
      have HBN:=Lib.hid (fun (c:Nat) (k:Int) => cntT_le (T:=T) (i:=i) (c:=c) k HS2.out)
      clear hns hE d1 d2 d3 hlt c0 c1 c2 c3 c4 c5 hno hnx HS HI
      go_wp2_with fail
      refine HC.out.mono ?_
      rintro e w3 ⟨rfl,X3⟩
      have c3:=(X.trans X3).cell HC3.out
      have Y3:=X.trans X3
      obtain ⟨l,hl⟩:∃ l,x.next=l:=⟨_,rfl⟩
      rw [hl] at c3 HNO HNX
      have HLX:=Lib.hid hl
      have hl6:=HNX.out.1
      have HO3:=Lib.hid (own_ext HO.out X3)
      clear hl HC HC3
      go_wp2_with fail
      go_loopw [40] (fun jv wr => ∃ (j:Nat),j ≤ l.length ∧ jv=.int .i64 j ∧ Hid (wr.ownsRow wo.heap.size 3 1 (.slice (some ⟨wo.heap.size,0,none⟩) T.length T.length) T.length ((cntL T i j).map (Value.int .i64))) ∧ Ext wo wr) (fun jv _ => l.length - (intOf jv).toNat)
      case atStart => exact ⟨0,Nat.zero_le _,rfl,HO3.out,Y3⟩
      case round =>
       obtain ⟨j,hj,rfl,HOJ,Y⟩:=hrel
       by_cases hlt2:j < l.length
       · obtain ⟨k,q1,q2,q3⟩:=get_lt hlt2
         obtain ⟨bn,bo,rfl,hc0⟩:=(HNO.out.ext Y).at q1
         have hcell:wr.cell? ⟨bn,bo + j,none⟩=some (.int .i64 k):=hc0
         have hjj:(j:Int) < (l.length:Int):=by omega
         obtain ⟨hk1,hk2⟩:=HNX.out.2.1 k (List.mem_of_getElem? q1.out)
         obtain ⟨m,rfl⟩:∃ m:Nat,k=(m:Int):=⟨k.toNat,by omega⟩
         have hmn:m < T.length:=by omega
         have hst:=cntL_step HD1.out (c:=j) (m:=m) (by rw [HLX.out]; exact q1.out)
         have hbn:=HBN.out j (m:Int)
         obtain ⟨z,hz⟩:∃ z,cntT T i j (m:Int)=z:=⟨_,rfl⟩
         have hge:=cntL_get (T:=T) (i:=i) (c:=j) hmn
         rw [hz] at hst hbn hge
         have a0:=own_cell HOJ.out (j:=m) (x:=.int .i64 (z:Int)) (by show _=_; rw [List.getElem?_map,hge]; rfl)
         have af:=HOJ.out.frozenAt m
         have sA:=HOJ.out.stored m (.int .i64 ((z:Int) + 1))
         have HST:Hid ((((cntL T i j).map (Value.int .i64)).set m (.int .i64 ((z:Int) + 1)))=(cntL T i (j + 1)).map (Value.int .i64)):=by
          show _=_
          rw [hst,List.map_set]
         have hA3:=Lib.hid sA.1
         have XR:=Lib.hid (Y.grown sA.2 (Nat.le_refl _))
         have hz1:(z:Int) ≤ 726:=by omega
         have hmi:(m:Int) < (T.length:Int):=hk2
         clear hc0 q1 q2 q3 hlt2 hst hz hge sA hk1 hk2 hbn
         go_wp2_with fail
         go_roundw
         case rel => exact ⟨j + 1,by omega,by go_num,by show World.ownsRow _ _ _ _ _ _ _; rw [← HST.out]; exact hA3.out,XR.out⟩
         case measure => simp [intOf]; omega
       · have hjl:l.length=j:=by omega
         have HO4:=HOJ.out
         rw [show cntL T i j=cntL T (i + 1) 0 from by rw [cntL_next HD1.out,HLX.out,hjl]] at HO4
         have HO5:=Lib.hid HO4
         have hge:¬ (j:Int) < (l.length:Int):=by omega
         clear hlt2 HO4
         go_wp2_with fail
         go_roundw
         case rel => exact ⟨i + 1,by omega,by go_num,HNS,HS2,HO5,Y⟩
         case measure => simp [intOf]; omega
    · rw [if_pos h0] at hns
      have hq:Q=E:=by
       rw [HQ.out,hns,if_pos h0]
      subst hq
      have hb:(Q != 0)=true:=by simp [h0]
      clear hns hE d1 d2 d3 hlt h0 hnx
      go_wp2_with fail
      refine HC.out.mono ?_
      rintro e w3 ⟨rfl,X3⟩
      go_wp2_with fail
      go_ret
      exact ⟨rfl,X.trans X3⟩
  · have hns:nodesE T.length 0 T=0:=by
     rw [← HI.out,List.drop_eq_nil_of_le (by omega)]; rfl
    have hq:=HQ.out
    rw [hns,if_neg (by simp)] at hq
    have HQT:=Lib.hid hq
    have hge:¬ (i:Int) < (T.length:Int):=by omega
    have HKN:=Lib.hid (fun (a:Nat) (x:Nd) (hx:T[a]?=some x) => (nodeE_next (by have:=nodesE_zero hns a x hx; rwa [Nat.zero_add] at this):x.next.length ≤ 6 ∧ (∀ k ∈ x.next,(a:Int) < k ∧ k < (T.length:Int)) ∧ (x.kind=2 → (x.player=0 ∨ x.player=1) ∧ 0 ≤ x.info ∧ x.info ≤ 9)))
    have hrow:=own_row HO.out (by omega)
    have hd1:Row wr (.slice (some ⟨wo.heap.size,1,none⟩) (T.length - 1) (T.length - 1)) (((cntL T i 0).drop 1).map (Value.int .i64)):=by
     have hl1:(((cntL T i 0).drop 1).map (Value.int .i64)).length=T.length - 1:=by rw [List.length_map,List.length_drop,cntL_len]
     refine ⟨_,_,by rw [hl1],⟨fun e => (by cases e),by rw [hl1]; exact Nat.le_refl _⟩,by rw [hl1]; omega,fun _ e => (by cases e),fun j u hu => ⟨_,_,rfl,?_⟩⟩
     rw [List.map_drop,List.getElem?_drop] at hu
     exact own_cell HO.out (j:=1 + j) (x:=u) hu
    have HCF:=Lib.hid (containsFunc_ints _ _ (((cntL T i 0).drop 1).map (fun n => n != 1)) 102 #[] wr hd1 (by simp) (fun _ _ => by kernel_rfl)
     (fun j u q W2 p1 p2 hW2 => by
       rw [List.getElem?_map] at p1 p2
       cases hk:((cntL T i 0).drop 1)[j]? with
       | none => rw [hk] at p1; cases p1
       | some k =>
         rw [hk] at p1 p2
         cases p1
         cases p2
         exact namedClo_any k W2)
     (lostB T) (by show _=_; rw [List.any_map,← cntL_lost (show T.length ≤ i by omega)]; rfl))
    have HCF0:=Lib.hid (fun (hn1:T.length=1) => containsFunc_ints (.slice (some ⟨wo.heap.size,0,none⟩) (T.length - 1) (T.length - 1)) [] [] 102 #[] wr ⟨some ⟨wo.heap.size,0,none⟩,T.length - 1,by rw [hn1]; rfl,⟨fun e => (by cases e),Nat.zero_le _⟩,by simp,fun h => absurd rfl h,Cells.nil _ _⟩ rfl (fun _ _ => by kernel_rfl)
     (fun j u q W2 p1 p2 hW2 => by simp at p1)
     (lostB T) (by
       show _=_
       unfold lostB
       rw [hn1]
       rfl))
    clear hlt hns hq HQ HI HNE HS HO hrow hd1
    unfold tailE at HQT
    go_upto_region 18 with fail
    go_cut [54] from 52 to 54 (fun s wx => s=.bool (lostB T) ∧ Ext wr wx)
    case first =>
     by_cases hn1:T.length=1
     · have hp:(T.length=1)=True:=eq_true hn1
       have HC0:=Lib.hid (HCF0.out hn1)
       clear hn1
       go_wp2_with fail
       refine HC0.out.mono ?_
       rintro e w4 ⟨rfl,X4⟩
       go_wp2_with fail
       go_meet
       exact ⟨rfl,X4⟩
     · go_wp2_with fail
       refine HCF.out.mono ?_
       rintro e w4 ⟨rfl,X4⟩
       go_wp2_with fail
       go_meet
       exact ⟨rfl,X4⟩
    case rest =>
    obtain ⟨rfl,X4⟩:=hcut
    have X5:=X.trans X4
    obtain ⟨w4,rfl⟩:∃ w4:World,w4=wc:=⟨_,rfl⟩
    have hb4:wo.heap.size ≤ w4.heap.size:=X5.size
    clear HCF HCF0 X X4
    cases hlo:lostB T with
    | true =>
      have hq:=HQT.out
      rw [hlo,if_pos rfl] at hq
      subst hq
      clear HQT
      go_wp2_with fail
      go_ret
      exact ⟨rfl,X5⟩
    | false =>
      have hq:=HQT.out
      rw [hlo,if_neg (by simp)] at hq
      have HQC:=Lib.hid hq
      clear HQT hq
      have hmm:=@run_makeMap Tryz.prog
      go_wp2_with fail
      go_loopw [58] (fun iv wr => ∃ (i:Nat) (f:Int × Int → Option Nat),i ≤ T.length ∧ iv=.int .i64 i ∧ Hid (MapG Tryz.prog 101 encP domP wr w4.heap.size i (fun p => (f p).map fun n => Value.int .i64 (n:Int))) ∧ Hid (sizeP T i f) ∧ Hid (calm T i) ∧ Ext wo wr) (fun iv _ => T.length - (intOf iv).toNat)
      case atStart => exact ⟨0,fun _ => none,Nat.zero_le _,rfl,MapG.made w4,(fun pq => .inl ⟨rfl,fun a x h => by omega⟩),(fun a b x y h => by omega),X5.alloc _⟩
      case round =>
       obtain ⟨i,f,hi4,rfl,HM,HSP,HCA,X⟩:=hrel
       by_cases hlt:i < T.length
       · obtain ⟨x,d1,d2,d3⟩:=get_lt hlt
         obtain ⟨b,off,no,nc,oo,oc,rfl,c0,c1,c2,c3,c4,c5,_,_,_⟩:=HN.out.at d1
         have c0:=X.cell c0
         have c1:=X.cell c1
         have c2:=X.cell c2
         have c3:=X.cell c3
         have c4:=X.cell c4
         have c5:=X.cell c5
         have hii:(i:Int) < (T.length:Int):=by omega
         have HK:=Lib.hid (HKN.out i x d1.out)
         have HSK:=Lib.hid (fun h => sizeP_skip HSP.out d1.out h)
         have HSU:=Lib.hid (fun h => sizeP_put HSP.out d1.out h)
         have HCC:=Lib.hid (fun h => calm_succ HSP.out HCA.out d1.out h)
         have HCN:=Lib.hid (fun n (h1:x.kind=2) (h2:f (x.player,x.info)=some n) h3 => calm_not HSP.out d1.out h1 h2 h3)
         obtain ⟨kx,hkx⟩:∃ kx,x.kind=kx:=⟨_,rfl⟩
         obtain ⟨px,hpx⟩:∃ px,x.player=px:=⟨_,rfl⟩
         obtain ⟨qx,hqx⟩:∃ qx,x.info=qx:=⟨_,rfl⟩
         obtain ⟨nx,hnx⟩:∃ nx,x.next.length=nx:=⟨_,rfl⟩
         obtain ⟨ox,hox⟩:∃ ox,x.odds.length=ox:=⟨_,rfl⟩
         obtain ⟨yx,hyx⟩:∃ yx,x.pay=yx:=⟨_,rfl⟩
         rw [hkx] at c0 HK HSK HSU HCC HCN
         rw [hpx] at c1 HK HSU HCC HCN
         rw [hqx] at c2 HK HSU HCC HCN
         rw [hnx] at c3 HK HSU HCC HCN
         rw [hox] at c4
         rw [hyx] at c5
         obtain ⟨T7,hT7⟩:∃ T7,wr.heap.size=T7:=⟨_,rfl⟩
         obtain ⟨W1,hW1⟩:∃ W1,wr.alloc (.cells #[.int .i64 kx,.int .i64 px,.int .i64 qx,.slice no nx nc,.slice oo ox oc,.string yx] 79)=W1:=⟨_,rfl⟩
         have X1:Ext wr W1:=by rw [← hW1]; exact (Ext.refl wr).alloc _
         have y0:W1.cell? ⟨T7,0,none⟩=some (.int .i64 kx):=by rw [← hW1,← hT7]; simp [go_sem]
         have y1:W1.cell? ⟨T7,1,none⟩=some (.int .i64 px):=by rw [← hW1,← hT7]; simp [go_sem]
         have y2:W1.cell? ⟨T7,2,none⟩=some (.int .i64 qx):=by rw [← hW1,← hT7]; simp [go_sem]
         have y3:W1.cell? ⟨T7,3,none⟩=some (.slice no nx nc):=by rw [← hW1,← hT7]; simp [go_sem]
         obtain ⟨T8,hT8⟩:∃ T8,W1.heap.size=T8:=⟨_,rfl⟩
         obtain ⟨W2,hW2⟩:∃ W2,W1.alloc (.cells #[.int .i64 px,.int .i64 qx] 101)=W2:=⟨_,rfl⟩
         have X2:Ext W1 W2:=by rw [← hW2]; exact (Ext.refl W1).alloc _
         have z0:W2.cell? ⟨T8,0,none⟩=some (.int .i64 px):=by rw [← hW2,← hT8]; simp [go_sem]
         have z1:W2.cell? ⟨T8,1,none⟩=some (.int .i64 qx):=by rw [← hW2,← hT8]; simp [go_sem]
         have z3:=X2.cell y3
         have HX1:=Lib.hid (X.trans X1)
         have HX2:=Lib.hid ((X.trans X1).trans X2)
         have HM1:=Lib.hid (HM.out.ext X1)
         have HM2:=Lib.hid ((HM.out.ext X1).ext X2)
         clear hkx hpx hqx hnx hox hyx d1 d2 d3 HKN HM HSP HCA X1 X2
         by_cases hk:kx=2
         · subst hk
           obtain ⟨hp,hq1,hq2⟩:=HK.out.2.2 rfl
           have HDM:Hid (domP (px,qx)):=⟨wf_small (by dsimp only; omega) (by dsimp only; omega),wf_small (by dsimp only; omega) (by dsimp only; omega)⟩
           have HFU:Hid ((fun p => ((fun pq => if pq=(px,qx) then some nx else f pq) p).map fun n => Value.int .i64 (n:Int))=fun j => if j=(px,qx) then some (Value.int .i64 (nx:Int)) else (f j).map fun n => Value.int .i64 (n:Int)):=by
            show _=_
            funext p
            dsimp only
            split <;> rfl
           have him:i < maxLen:=by unfold maxLen; omega
           cases hf:f (px,qx) with
           | none =>
             have HF2:Hid ((f (px,qx)).map (fun n => Value.int .i64 (n:Int))=none):=by show _=_; rw [hf]; rfl
             have HCC2:=Lib.hid (HCC.out (.inr (.inl hf)))
             have HSU2:=Lib.hid (HSU.out rfl)
             clear hf hp hq1 hq2 HK HSK HSU HCC HCN
             go_wp2_with (first
              | (at_lookup; go_must (refine wp_look rfl rfl keyE_p2 Tryz.underlying143 (zeroI _) rfl HM2.out rfl HDM.out HF2.out ?_))
              | (at_mapUpdate; go_must (refine wp_put rfl rfl keyE_p2 Tryz.underlying143 rfl HM2.out him rfl HDM.out rfl ?_); intro w7 HM7 hg7))
             go_roundw
             case rel => exact ⟨i + 1,fun pq => if pq=(px,qx) then some nx else f pq,by omega,by go_num,by show MapG _ _ _ _ _ _ _ _; rw [HFU.out]; exact HM7,HSU2.out,HCC2.out,HX2.out.grown hg7 hb4⟩
             case measure => simp [intOf]; omega
           | some n =>
             have HF2:Hid ((f (px,qx)).map (fun n => Value.int .i64 (n:Int))=some (.int .i64 (n:Int))):=by show _=_; rw [hf]; rfl
             by_cases hn:n=nx
             · subst hn
               have HCC2:=Lib.hid (HCC.out (.inr (.inr hf)))
               have HSU2:=Lib.hid (HSU.out rfl)
               have hbn:((n:Int) != (n:Int))=false:=by simp
               clear hf hp hq1 hq2 HK HSK HSU HCC HCN
               go_wp2_with (first
                | (at_lookup; go_must (refine wp_look rfl rfl keyE_p2 Tryz.underlying143 (zeroI _) rfl HM2.out rfl HDM.out HF2.out ?_))
                | (at_mapUpdate; go_must (refine wp_put rfl rfl keyE_p2 Tryz.underlying143 rfl HM2.out him rfl HDM.out rfl ?_); intro w7 HM7 hg7))
               go_roundw
               case rel => exact ⟨i + 1,fun pq => if pq=(px,qx) then some n else f pq,by omega,by go_num,by show MapG _ _ _ _ _ _ _ _; rw [HFU.out]; exact HM7,HSU2.out,HCC2.out,HX2.out.grown hg7 hb4⟩
               case measure => simp [intOf]; omega
             · have hcb:=HCN.out n rfl hf hn
               have hq:=HQC.out
               rw [hcb,if_pos rfl] at hq
               subst hq
               have hbn:((n:Int) != (nx:Int))=true:=by rw [bne_iff_ne]; omega
               clear hf hp hq1 hq2 HK HSK HSU HCC HCN hcb hn
               go_wp2_with (first
                | (at_lookup; go_must (refine wp_look rfl rfl keyE_p2 Tryz.underlying143 (zeroI _) rfl HM2.out rfl HDM.out HF2.out ?_)))
               go_ret
               exact ⟨rfl,HX2.out⟩
         · have HCC2:=Lib.hid (HCC.out (.inl hk))
           have HSK2:=Lib.hid (HSK.out hk)
           have hbk:(kx != 2)=true:=by simp [hk]
           clear HK HSK HSU HCC HCN HM2 HX2 z0 z1 z3 hW2 hT8
           go_wp2_with fail
           go_roundw
           case rel => exact ⟨i + 1,f,by omega,by go_num,HM1.out.mono (by omega),HSK2.out,HCC2.out,HX1.out⟩
           case measure => simp [intOf]; omega
       · have hcb:=(calm_all (show T.length ≤ i by omega)).1 HCA.out
         have hq:=HQC.out
         rw [hcb,if_neg (by simp)] at hq
         subst hq
         have hge3:¬ (i:Int) < (T.length:Int):=by omega
         clear hlt hcb
         go_wp2_with fail
         go_ret
         exact ⟨rfl,X⟩
set_option maxHeartbeats 1600000 in
set_option maxRecDepth 100000 in
theorem treePlayer_any (v:Value) (T:List Nd) (p:Int) (w:World) (htab:TabPow w) (hv:TreeIn w v T) (hz:TreeSz T) :
 Calls Tryz.prog 61 #[v,.int .i64 p] w fun e w' => e=.returned (.int .i64 (playerE T p)) ∧ Ext w w':=by
 have HC:=Lib.hid (treeCheck_any v T w htab hv hz)
 unfold playerE
 generalize treeE T=E at *
 obtain ⟨ao,c,rfl,_,_⟩:=hv.open
 clear hv hz
 by_cases h0:E=0
 · subst h0
   rw [if_neg (by simp)]
   by_cases h1:p=0
   · subst h1
     rw [if_neg (by simp)]
     go_enter Tryz.func61,Tryz.ntmps61
     go_wp2_with fail
     refine HC.out.mono ?_
     rintro e w2 ⟨rfl,X2⟩
     go_wp2_with fail
     go_ret
     exact ⟨rfl,X2⟩
   · by_cases h2:p=1
     · subst h2
       rw [if_neg (by simp)]
       go_enter Tryz.func61,Tryz.ntmps61
       go_wp2_with fail
       refine HC.out.mono ?_
       rintro e w2 ⟨rfl,X2⟩
       go_wp2_with fail
       go_ret
       exact ⟨rfl,X2⟩
     · rw [if_pos ⟨h1,h2⟩]
       have hb1:(p != 0)=true:=by simp [h1]
       have hb2:(p != 1)=true:=by simp [h2]
       go_enter Tryz.func61,Tryz.ntmps61
       go_wp2_with fail
       refine HC.out.mono ?_
       rintro e w2 ⟨rfl,X2⟩
       go_wp2_with fail
       go_ret
       exact ⟨rfl,X2⟩
 · rw [if_pos h0]
   have hb:(E != 0)=true:=by simp [h0]
   go_enter Tryz.func61,Tryz.ntmps61
   go_wp2_with fail
   refine HC.out.mono ?_
   rintro e w2 ⟨rfl,X2⟩
   go_wp2_with fail
   go_ret
   exact ⟨rfl,X2⟩
set_option maxHeartbeats 1600000 in
set_option maxRecDepth 100000 in
theorem rPlayerError_any (v:Value) (T:List Nd) (p:Int) (w:World) (hv:TreeIn w v T) (hz:TreeSz T) :
 Calls Tryz.prog 37 #[v,.int .i64 p] w fun e w' => e=.returned (.int .i64 (playerE T p)) ∧ Ext w w':=by
 have HC:=Lib.hid (rTreeError_any v T w hv hz)
 unfold playerE
 generalize treeE T=E at *
 obtain ⟨ao,c,rfl,_,_⟩:=hv.open
 clear hv hz
 by_cases h0:E=0
 · subst h0
   rw [if_neg (by simp)]
   by_cases h1:p=0
   · subst h1
     rw [if_neg (by simp)]
     go_enter Tryz.func37,Tryz.ntmps37
     go_wp2_with fail
     refine HC.out.mono ?_
     rintro e w2 ⟨rfl,X2⟩
     go_wp2_with fail
     go_ret
     exact ⟨rfl,X2⟩
   · by_cases h2:p=1
     · subst h2
       rw [if_neg (by simp)]
       go_enter Tryz.func37,Tryz.ntmps37
       go_wp2_with fail
       refine HC.out.mono ?_
       rintro e w2 ⟨rfl,X2⟩
       go_wp2_with fail
       go_ret
       exact ⟨rfl,X2⟩
     · rw [if_pos ⟨h1,h2⟩]
       have hb1:(p != 0)=true:=by simp [h1]
       have hb2:(p != 1)=true:=by simp [h2]
       go_enter Tryz.func37,Tryz.ntmps37
       go_wp2_with fail
       refine HC.out.mono ?_
       rintro e w2 ⟨rfl,X2⟩
       go_wp2_with fail
       go_ret
       exact ⟨rfl,X2⟩
 · rw [if_pos h0]
   have hb:(E != 0)=true:=by simp [h0]
   go_enter Tryz.func37,Tryz.ntmps37
   go_wp2_with fail
   refine HC.out.mono ?_
   rintro e w2 ⟨rfl,X2⟩
   go_wp2_with fail
   go_ret
   exact ⟨rfl,X2⟩
theorem lit_rowsT (w:World) (e:TypeId) {v:Value} {l:List ByteArray} (h:Strs w v l) (k:Nat) (hk:k=w.heap.size) :
 Rows Value.string (w.alloc (.cells #[v] e)) (.slice (some ⟨k,0,none⟩) 1 1) [l]:=by
 subst hk
 refine ⟨[v],⟨_,_,rfl,⟨fun e => (by cases e),Nat.le_refl _⟩,by simp,fun _ e => (by cases e),fun i u hu => ?_⟩,rfl,fun i u xs a b => ?_⟩
 · match i,hu with
   | 0,hu =>
     simp only [List.getElem?_cons_zero,Option.some.injEq] at hu
     subst hu
     exact ⟨_,_,rfl,by simp [go_sem]⟩
   | i + 1,hu => simp at hu
 · match i,a,b with
   | 0,a,b =>
     simp only [List.getElem?_cons_zero,Option.some.injEq] at a b
     subst a
     subst b
     exact h.ext ((Ext.refl w).alloc _)
   | i + 1,a,b => simp at a
set_option maxHeartbeats 3200000 in
set_option maxRecDepth 100000 in
theorem treeWeight_any (v:Value) (T:List Nd) (w:World) (hv:TreeIn w v T) :
 Calls Tryz.prog 8 #[v] w fun e w' => ∃ n,e=.returned (.int .i64 n) ∧ Ext w w':=by
 obtain ⟨wo,rfl⟩:∃ wo:World,wo=w:=⟨_,rfl⟩
 obtain ⟨ao,c,rfl,hlen,hn⟩:=hv.open
 have HN:=Lib.hid hn
 clear hn hv
 go_enter Tryz.func8,Tryz.ntmps8
 go_wp2_with fail
 go_loopw [3,8] (fun nv iv wr => ∃ (i:Nat) (n:Int),i ≤ T.length ∧ nv=.int .i64 n ∧ iv=.int .i64 i ∧ Ext wo wr) (fun _ iv _ => T.length - (intOf iv).toNat)
 case atStart => exact ⟨0,0,Nat.zero_le _,rfl,rfl,Ext.refl _⟩
 case round =>
  obtain ⟨i,n,hi,rfl,rfl,X⟩:=hrel
  by_cases hlt:i < T.length
  · obtain ⟨x,d1,d2,d3⟩:=get_lt hlt
    obtain ⟨b,off,no,nc,oo,oc,rfl,c0,c1,c2,c3,c4,c5,_,hod,_⟩:=(HN.out.ext X).at d1
    have hii:(i:Int) < (T.length:Int):=by omega
    have HW:=Lib.hid (fun u W h => weight_any u [x.odds] W h)
    have HOD:=Lib.hid hod
    obtain ⟨T7,hT7⟩:∃ T7,wr.heap.size=T7:=⟨_,rfl⟩
    obtain ⟨W1,hW1⟩:∃ W1,wr.alloc (.cells #[.int .i64 x.kind,.int .i64 x.player,.int .i64 x.info,.slice no x.next.length nc,.slice oo x.odds.length oc,.string x.pay] 79)=W1:=⟨_,rfl⟩
    have X1:Ext wr W1:=by rw [← hW1]; exact (Ext.refl wr).alloc _
    have y4:W1.cell? ⟨T7,4,none⟩=some (.slice oo x.odds.length oc):=by rw [← hW1,← hT7]; simp [go_sem]
    have y5:W1.cell? ⟨T7,5,none⟩=some (.string x.pay):=by rw [← hW1,← hT7]; simp [go_sem]
    have HX1:=Lib.hid X1
    clear hod d1 d2 d3 hlt X1
    go_wp2_with fail
    go_region_held3 (fun W9 => W9.cell? ⟨T7,4,none⟩=some (.slice oo x.odds.length oc) ∧ W9.cell? ⟨T7,5,none⟩=some (.string x.pay))
     (first | exact ⟨XD.cell y4,XD.cell y5⟩ | exact ⟨y4,y5⟩ | go_keep)
     (first | (go_at_call 45; refine (HW.out _ _ (by exact lit_rowsT _ _ ((HOD.out.ext HX1.out).ext (by repeat' (first | with_reducible exact Ext.refl _ | with_reducible apply Ext.alloc | with_reducible apply Ext.drew))) _ (by first | rfl | simp))).mono ?_; rintro e w5 ⟨n5,rfl,X5⟩; have XD:Ext W1 w5:=Ext.trans (by repeat' (first | with_reducible exact Ext.refl _ | with_reducible apply Ext.alloc | with_reducible apply Ext.drew)) X5))
    all_goals
     go_wp2_with fail
     go_roundw
     case rel => exact ⟨i + 1,_,by omega,rfl,by go_num,(X.trans HX1.out).trans (by first | exact XD | exact XD.drew)⟩
     case measure => simp [intOf]; omega
  · have hge:¬ (i:Int) < (T.length:Int):=by omega
    clear hlt
    go_wp2_with fail
    go_ret
    first
     | exact ⟨_,rfl,X⟩
     | exact X
     | exact ⟨⟨_,rfl⟩,X⟩
end Go.Proofs.YtcggohkbmhdohaaGreatDoor
