/- texts merged: RpA RpB RpC RpD RpE RpF RpG RpH -/
import Derived.Test.YtcggohkbmhdohaaGreatDoorTrPl
import Derived.Test.YtcggohkbmhdohaaGreatDoorTrQX
import Derived.Test.YtcggohkbmhdohaaGreatDoorRtK
import Derived.Test.YtcggohkbmhdohaaGreatDoorTrBX
import Derived.Test.YtcggohkbmhdohaaGreatDoorRcIL
import Derived.Test.YtcggohkbmhdohaaGreatDoorMtRg
import Derived.Test.YtcggohkbmhdohaaGreatDoorRcMN
namespace Go.Proofs.YtcggohkbmhdohaaGreatDoor
open Go.RowKit
set_option linter.unusedVariables false
def HasD (D X:Nat) (q:Rat):Prop:=∃ z:Int,q * (D:Rat)=(z:Rat) ∧ z.natAbs ≤ X * D
theorem HasD.zero (D X:Nat):HasD D X 0:=⟨0,by rw [Rat.zero_mul]; rfl,by simp⟩
theorem HasD.one (D X:Nat) (h:1 ≤ X):HasD D X 1:=⟨(D:Int),by rw [Rat.one_mul]; rfl,by rw [Int.natAbs_natCast]; exact Nat.le_mul_of_pos_left D h⟩
theorem HasD.mono {D X Y:Nat} {q:Rat} (h:HasD D X q) (hx:X ≤ Y):HasD D Y q:=by
 obtain ⟨z,h1,h2⟩:=h
 exact ⟨z,h1,Nat.le_trans h2 (Nat.mul_le_mul_right _ hx)⟩
theorem HasD.add {D X Y:Nat} {a b:Rat} (ha:HasD D X a) (hb:HasD D Y b):HasD D (X + Y) (a + b):=by
 obtain ⟨y,h1,h2⟩:=ha
 obtain ⟨z,h3,h4⟩:=hb
 refine ⟨y + z,by rw [Rat.add_mul,h1,h3]; exact (Rat.intCast_add ..).symm,?_⟩
 have:=Int.natAbs_add_le y z
 rw [Nat.add_mul]; omega
theorem HasD.mul {D E X Y:Nat} {a b:Rat} (ha:HasD D X a) (hb:HasD E Y b):HasD (D * E) (X * Y) (a * b):=by
 obtain ⟨y,h1,h2⟩:=ha
 obtain ⟨z,h3,h4⟩:=hb
 refine ⟨y * z,?_,?_⟩
 · rw [Rat.intCast_mul,← h1,← h3,show ((D * E:Nat):Rat)=(D:Rat) * (E:Rat) from Rat.natCast_mul ..]
   grind
 · rw [Int.natAbs_mul]
   have:=Nat.mul_le_mul h2 h4
   calc y.natAbs * z.natAbs ≤ X * D * (Y * E):=this
    _=X * Y * (D * E):=by rw [Nat.mul_mul_mul_comm]
theorem HasD.up {D X:Nat} {q:Rat} (h:HasD D X q) (e:Nat):HasD (D * e) X q:=by
 have h1:=h.mul (HasD.one e 1 (Nat.le_refl _))
 rwa [Nat.mul_one,Rat.mul_one] at h1
theorem HasD.of {q:Rat} {m:Nat} (h:RB m q):HasD q.den (10 ^ m) q:=by
 refine ⟨q.num,?_,?_⟩
 · have h4:(q.den:Rat) ≠ 0:=by
    intro e
    have h5:((q.den:Int):Rat)=((0:Int):Rat):=e
    have h6:=Rat.intCast_inj.1 h5
    exact q.den_nz (by omega)
   have h7:q=Rat.divInt q.num (q.den:Int):=(Rat.num_divInt_den q).symm
   rw [Rat.divInt_eq_div] at h7
   have h8:((q.den:Int):Rat)=(q.den:Rat):=rfl
   rw [h8,Rat.div_def] at h7
   calc q * (q.den:Rat)=(q.num:Rat) * (q.den:Rat)⁻¹ * (q.den:Rat):=by rw [← h7]
    _=(q.num:Rat):=by rw [Rat.mul_assoc,Rat.inv_mul_cancel _ h4,Rat.mul_one]
 · exact Nat.le_trans (Nat.le_of_lt h.1) (Nat.le_mul_of_pos_right _ q.den_pos)
theorem HasD.rb {D X k:Nat} {q:Rat} (h:HasD D X q) (hD:D ≠ 0) (hk:X * D < 10 ^ k) (hX:1 ≤ X):RB k q:=by
 obtain ⟨z,h1,h2⟩:=h
 have hd:(D:Int) ≠ 0:=by omega
 have hq:q=Rat.divInt z (D:Int):=by
  rw [Rat.divInt_eq_div,← h1]
  have h3:((D:Int):Rat)=(D:Rat):=rfl
  have h4:(D:Rat) ≠ 0:=by
   intro e
   have h5:((D:Int):Rat)=((0:Int):Rat):=e
   exact hd (Rat.intCast_inj.1 h5)
  rw [h3,Rat.div_def,Rat.mul_assoc,Rat.mul_inv_cancel _ h4,Rat.mul_one]
 rw [hq]
 exact RB_divInt hD (Nat.lt_of_le_of_lt h2 hk) (Nat.lt_of_le_of_lt (Nat.le_mul_of_pos_left D hX) hk)
theorem ten_le (k:Nat):10 * 10 ^ k ≤ 10 ^ (k + 1):=by rw [Nat.pow_succ,Nat.mul_comm]; exact Nat.le_refl _
theorem pow_lt2 {a b c D:Nat} (hD:D ≤ 10 ^ b) (h:a + b < c):10 ^ a * D < 10 ^ c :=
 Nat.lt_of_le_of_lt (Nat.mul_le_mul_left _ hD) (by rw [← Nat.pow_add]; exact Nat.pow_lt_pow_right (by omega) h)
theorem pow_le {x k m:Nat} (h:k ≤ m) (hx:x ≤ 10 ^ k):x ≤ 10 ^ m:=Nat.le_trans hx (Nat.pow_le_pow_right (by omega) h)
def termT (T:List Nd) (G:Int → List Ch) (x:Nd) (c n:Nat):Rat:=oddP G x c * valT T G n
theorem sumC_has {D X:Nat} {g:Nat → Nat → Rat}:∀ {l:List Int} {c:Nat},(∀ d n,l[d]?=some n → HasD D X (g (c + d) n.toNat)) → HasD D (l.length * X) (sumC g l c)
 | [],_,_ => HasD.zero _ _
 | n :: t,c,h => by
   rw [sumC,List.length_cons,Nat.add_mul,Nat.one_mul,Nat.add_comm]
   exact (h 0 n rfl).add (sumC_has fun d m hd => by have:=h (d + 1) m (by simpa using hd); rwa [show c + 1 + d=c + (d + 1) by omega])
theorem sumC_take {g:Nat → Nat → Rat}:∀ {l:List Int} {c i:Nat} {n:Int},l[i]?=some n → sumC g (l.take (i + 1)) c=sumC g (l.take i) c + g (c + i) n.toNat
 | [],_,_,_,h => by simp at h
 | a :: t,c,0,n,h => by
   cases h
   show g c a.toNat + sumC g (t.take 0) (c + 1)=0 + g (c + 0) a.toNat
   rw [List.take_zero]
   show g c a.toNat + 0=0 + g (c + 0) a.toNat
   rw [Nat.add_zero]; grind
 | a :: t,c,i + 1,n,h => by
   show g c a.toNat + sumC g (t.take (i + 1)) (c + 1)=g c a.toNat + sumC g (t.take i) (c + 1) + g (c + (i + 1)) n.toNat
   rw [sumC_take (l:=t) (c:=c + 1) (by simpa using h),show c + 1 + i=c + (i + 1) by omega]
   grind
theorem six_le {a X:Nat} (h:a ≤ 6):a * X ≤ 10 * X:=Nat.mul_le_mul_right _ (by omega)
theorem vals_has {T:List Nd} (hT:Valid T) (G:Int → List Ch) {m:Nat} (hm:1 ≤ m) (hp:∀ (i:Nat) (x:Nd),T[i]?=some x → x.kind=0 → RB m (ratOf x.pay))
 (hw:∀ (i c:Nat) (x:Nd) (k:Nat),T[i]?=some x → x.next[c]?=some (k:Int) → RB m (oddP G x c)) :
 ∀ d,d ≤ T.length → ∃ D:Nat,D ≠ 0 ∧ D ≤ 10 ^ (2 * m * d) ∧ ∀ j,T.length - d ≤ j → j < T.length → HasD D (10 ^ ((m + 1) * d + m)) (valT T G j) ∧ ∀ (i c:Nat) (x:Nd),T[i]?=some x → x.next[c]?=some (j:Int) → HasD D (10 ^ ((m + 1) * d + m)) (termT T G x c j)
 | 0,_ => ⟨1,by decide,by simp,fun j h1 h2 => absurd h1 (by omega)⟩
 | d + 1,hd => by
   obtain ⟨D,hD0,hDl,hD⟩:=vals_has hT G hm hp hw d (by omega)
   have hk:T.length - (d + 1) < T.length:=by omega
   obtain ⟨k,hke⟩:∃ k,T.length - (d + 1)=k:=⟨_,rfl⟩
   rw [hke] at hk ⊢
   obtain ⟨x,hx⟩:∃ x,T[k]?=some x:=⟨T[k],List.getElem?_eq_getElem hk⟩
   have hv:∃ e:Nat,e ≠ 0 ∧ e ≤ 10 ^ m ∧ HasD (D * e) (10 ^ ((m + 1) * d + m + 1)) (valT T G k):=by
    by_cases hk0:x.kind=0
    · refine ⟨(ratOf x.pay).den,(ratOf x.pay).den_nz,Nat.le_of_lt (hp k x hx hk0).2,?_⟩
      rw [valT_end hT G hx hk0,Nat.mul_comm]
      exact ((HasD.of (hp k x hx hk0)).up D).mono (Nat.pow_le_pow_right (by omega) (by omega))
    · refine ⟨1,by decide,Nat.pow_pos (by omega),?_⟩
      rw [Nat.mul_one,valT_mid hT G hx hk0]
      have hN6:x.next.length ≤ 6:=by
       rcases hT.node k x hx with ⟨_,_,_,hN,_⟩ | ⟨_,_,_,_,_,_,hNE⟩ | ⟨_,_,_,_,_,_,hNE⟩
       · rw [hN]; exact Nat.zero_le _
       · exact (nextE_zero hNE).2.1
       · exact (nextE_zero hNE).2.1
      refine HasD.mono (sumC_has (X:=10 ^ ((m + 1) * d + m)) fun c n hn => ?_) ?_
      · have hc:=hT.child hx (List.mem_of_getElem? hn)
        have hn2:x.next[c]?=some ((n.toNat:Nat):Int):=by rw [hn]; congr 1; omega
        have:=(hD n.toNat (by omega) (by omega)).2 k c x hx hn2
        rw [Nat.zero_add]
        exact this
      · exact Nat.le_trans (six_le hN6) (by rw [Nat.pow_succ]; omega)
   obtain ⟨e,he0,hel,hve⟩:=hv
   have hin:∃ f:Nat,f ≠ 0 ∧ f ≤ 10 ^ m ∧ ∀ (i c:Nat) (y:Nd),T[i]?=some y → y.next[c]?=some (k:Int) → HasD (D * e * f) (10 ^ ((m + 1) * d + m + 1 + m)) (termT T G y c k):=by
    by_cases hk0:0 < k
    · obtain ⟨i,c,y,hy,hyk,_,_⟩:=hT.has hk0 hk
      refine ⟨(oddP G y c).den,(oddP G y c).den_nz,Nat.le_of_lt (hw i c y k hy hyk).2,fun i2 c2 y2 hy2 hyk2 => ?_⟩
      obtain ⟨rfl,rfl⟩:=hT.uniq hy hyk hy2 hyk2
      have hyy:y=y2:=by rw [hy] at hy2; exact Option.some.inj hy2
      subst hyy
      have:=hve.mul (HasD.of (hw i c y k hy hyk))
      unfold termT
      rw [Rat.mul_comm (oddP G y c),Nat.pow_add]
      exact this
    · refine ⟨1,by decide,Nat.pow_pos (by omega),fun i2 c2 y2 hy2 hyk2 => ?_⟩
      have:=hT.child hy2 (List.mem_of_getElem? hyk2)
      omega
   obtain ⟨f,hf0,hfl,hvf⟩:=hin
   have hpow:10 ^ ((m + 1) * d + m) ≤ 10 ^ ((m + 1) * (d + 1) + m):=Nat.pow_le_pow_right (by omega) (by rw [Nat.mul_add]; omega)
   refine ⟨D * e * f,Nat.mul_ne_zero (Nat.mul_ne_zero hD0 he0) hf0,?_,fun j h1 h2 => ?_⟩
   · calc D * e * f ≤ 10 ^ (2 * m * d) * 10 ^ m * 10 ^ m:=Nat.mul_le_mul (Nat.mul_le_mul hDl hel) hfl
      _=10 ^ (2 * m * (d + 1)):=by rw [← Nat.pow_add,← Nat.pow_add]; congr 1; rw [Nat.mul_add]; omega
   · by_cases hjk:j=k
     · subst hjk
       refine ⟨(hve.up f).mono (Nat.pow_le_pow_right (by omega) (by rw [Nat.mul_add]; omega)),fun i c y hy hyk => (hvf i c y hy hyk).mono (Nat.pow_le_pow_right (by omega) (by rw [Nat.mul_add]; omega))⟩
     · obtain ⟨g1,g2⟩:=hD j (by omega) h2
       exact ⟨((g1.up e).up f).mono hpow,fun i c y hy hyk => (((g2 i c y hy hyk).up e).up f).mono hpow⟩
theorem val_sizes {T:List Nd} (hT:Valid T) (hn:T.length ≤ 40) (G:Int → List Ch) (hp:∀ (i:Nat) (x:Nd),T[i]?=some x → x.kind=0 → RB 12 (ratOf x.pay))
 (hw:∀ (i c:Nat) (x:Nd) (k:Nat),T[i]?=some x → x.next[c]?=some (k:Int) → RB 12 (oddP G x c)) {i:Nat} {x:Nd} (hx:T[i]?=some x) {B:Nat} (hB:B=1500) :
 RB B (valT T G i) ∧ ∀ c,RB B (sumC (termT T G x) (x.next.take c) 0):=by
 obtain ⟨D,h0,h1,h2⟩:=vals_has hT G (by omega) hp hw T.length (Nat.le_refl _)
 obtain ⟨K,hK⟩:∃ K,K=960:=⟨_,rfl⟩
 have hD:D ≤ 10 ^ K:=pow_le (by omega) h1
 obtain ⟨X,hX0⟩:∃ X,X=532:=⟨_,rfl⟩
 have hX:10 ^ ((12 + 1) * T.length + 12) ≤ 10 ^ X:=Nat.pow_le_pow_right (by omega) (by omega)
 have hi:=Valid.lt hx
 refine ⟨?_,fun c => ?_⟩
 · exact HasD.rb ((h2 i (by omega) hi).1.mono hX) h0 (pow_lt2 hD (by omega)) (Nat.pow_pos (by omega))
 · have hN6:x.next.length ≤ 6:=by
    rcases hT.node i x hx with ⟨_,_,_,hN,_⟩ | ⟨_,_,_,_,_,_,hNE⟩ | ⟨_,_,_,_,_,_,hNE⟩
    · rw [hN]; exact Nat.zero_le _
    · exact (nextE_zero hNE).2.1
    · exact (nextE_zero hNE).2.1
   have hs:HasD D ((x.next.take c).length * 10 ^ X) (sumC (termT T G x) (x.next.take c) 0):=sumC_has fun d n hd => by
    have hd2:x.next[d]?=some n:=by
     rw [List.getElem?_take] at hd
     split at hd
     · exact hd
     · cases hd
    have hc:=hT.child hx (List.mem_of_getElem? hd2)
    have hn2:x.next[d]?=some ((n.toNat:Nat):Int):=by rw [hd2]; congr 1; omega
    rw [Nat.zero_add]
    exact ((h2 n.toNat (by omega) (by omega)).2 i d x hx hn2).mono hX
   have hl:(x.next.take c).length ≤ 6:=by rw [List.length_take]; omega
   exact HasD.rb (hs.mono (Nat.le_trans (six_le hl) (ten_le X))) h0 (pow_lt2 hD (by omega)) (Nat.pow_pos (by omega))
def bothG (S0 S1:List Ch) (p:Int):List Ch:=if p=0 then S0 else S1
theorem givG_both {S0 S1:List Ch} {p:Int} (hp:p=0 ∨ p=1):givG true true S0 S1 p=some (bothG S0 S1 p):=by
 rcases hp with rfl | rfl <;> rfl
structure BothOk (T:List Nd) (S0 S1:List Ch):Prop where
 v:Valid T
 s0:strategyE T 0 S0=0
 s1:strategyE T 1 S1=0
theorem BothOk.str {T:List Nd} {S0 S1:List Ch} (h:BothOk T S0 S1) {p:Int} (hp:p=0 ∨ p=1):strategyE T p (bothG S0 S1 p)=0:=by
 rcases hp with rfl | rfl
 · exact h.s0
 · exact h.s1
theorem BothOk.fit {T:List Nd} {S0 S1:List Ch} (h:BothOk T S0 S1) {p:Int} (hp:p=0 ∨ p=1):FitS T p (bothG S0 S1 p):=fit_of h.v (h.str hp)
theorem Valid.mover {T:List Nd} (h:Valid T) {i:Nat} {x:Nd} (hx:T[i]?=some x) (hk:x.kind=2):x.player=0 ∨ x.player=1:=by
 rcases h.node i x hx with ⟨k,_⟩ | ⟨k,_⟩ | ⟨_,_,_,hp,_⟩
 · rw [k] at hk; cases hk
 · rw [k] at hk; cases hk
 · exact hp
theorem BothOk.entry {T:List Nd} {S0 S1:List Ch} (h:BothOk T S0 S1) {i:Nat} {x:Nd} (hx:T[i]?=some x) (hk:x.kind=2):∃ (j:Nat) (e:Ch),(bothG S0 S1 x.player)[j]?=some e ∧ e.1=x.info ∧ e.2.length=x.next.length :=
 str_entry h.v (h.str (h.v.mover hx hk)) (List.mem_of_getElem? hx) (isMove_iff.2 ⟨hk,rfl,rfl⟩)
theorem last_fold {q:Int} {c:Nat}:∀ {S:List Ch} {a:Rat},(∀ s ∈ S,s.1 ≠ q) → S.foldl (fun a s => if s.1=q then ((s.2[c]?).map ratOf).getD 0 else a) a=a
 | [],_,_ => rfl
 | s :: t,a,h => by
   rw [List.foldl_cons,if_neg (h s (List.mem_cons_self ..))]
   exact last_fold fun x hx => h x (List.mem_cons_of_mem _ hx)
theorem last_one {c:Nat}:∀ {S:List Ch} {e:Ch} (a:Rat),(S.map (·.1)).Nodup → e ∈ S → S.foldl (fun a s => if s.1=e.1 then ((s.2[c]?).map ratOf).getD 0 else a) a=((e.2[c]?).map ratOf).getD 0
 | [],e,a,_,h => by cases h
 | s :: t,e,a,hn,h => by
   rw [List.map_cons,List.nodup_cons] at hn
   rw [List.foldl_cons]
   rcases List.mem_cons.1 h with rfl | h
   · rw [if_pos rfl]
     exact last_fold fun x hx h2 => hn.1 (by rw [← h2]; exact List.mem_map_of_mem hx)
   · rw [if_neg (fun h2 => hn.1 (by rw [h2]; exact List.mem_map_of_mem h))]
     exact last_one a hn.2 h
def oddO (T:List Nd) (S0 S1:List Ch) (i:Nat):Option (List Rat):=match T[i]? with
 | none => none
 | some x => ((bothG S0 S1 x.player).find? fun e => e.1 == x.info).map fun e => e.2.map ratOf
theorem find_entry {q:Int}:∀ {S:List Ch} {e:Ch},(S.map (·.1)).Nodup → e ∈ S → e.1=q → S.find? (fun e => e.1 == q)=some e
 | [],e,_,h,_ => by cases h
 | s :: t,e,hn,h,hq => by
   rw [List.map_cons,List.nodup_cons] at hn
   rcases List.mem_cons.1 h with rfl | h
   · rw [List.find?_cons_of_pos (by simpa using hq)]
   · rw [List.find?_cons_of_neg (by simp only [beq_iff_eq]; exact fun h2 => hn.1 (by rw [h2,← hq]; exact List.mem_map_of_mem h))]
     exact find_entry hn.2 h hq
theorem oddO_of {T:List Nd} {S0 S1:List Ch} (h:BothOk T S0 S1) {i:Nat} {x:Nd} (hx:T[i]?=some x) (hk:x.kind=2) {e:Ch} (he:e ∈ bothG S0 S1 x.player) (hq:e.1=x.info):oddO T S0 S1 i=some (e.2.map ratOf):=by
 unfold oddO
 rw [hx]
 dsimp only
 rw [find_entry (h.fit (h.v.mover hx hk)).nd he hq]
 rfl
theorem both_step {T:List Nd} {S0 S1:List Ch} (h:BothOk T S0 S1) {i c k:Nat} {x:Nd} (hx:T[i]?=some x) (hk:x.next[c]?=some (k:Int)) :
 chanceT T (givG true true S0 S1) k=chanceT T (givG true true S0 S1) i * facL (oddsL T (oddO T S0 S1) i) c ∧ facL (oddsL T (oddO T S0 S1) i) c=oddP (bothG S0 S1) x c ∧ (∃ s:ByteArray,oddP (bothG S0 S1) x c=ratOf s ∧ RatOk s ∧ ((x.kind=1 ∧ s ∈ x.odds) ∨ (x.kind=2 ∧ ∃ e ∈ bothG S0 S1 x.player,s ∈ e.2))):=by
 have hc:=(List.getElem?_eq_some_iff.1 hk).1
 rw [chanceT_step h.v _ hx hk]
 unfold facP oddsL oddP
 rw [hx]
 dsimp only
 rcases h.v.node i x hx with ⟨k0,_,_,hN,_⟩ | ⟨k0,_,_,_,hO,hE,_⟩ | ⟨k0,_,_,hp,_⟩
 · rw [hN] at hk; simp at hk
 · rw [if_pos k0,if_pos k0,if_pos k0]
   have ho:x.odds[c]?=some (x.odds[c]'(by omega)):=List.getElem?_eq_getElem (by omega)
   unfold facL
   dsimp only
   rw [List.getElem?_map,ho]
   refine ⟨rfl,rfl,_,rfl,odds_ok h.v hx _ (List.mem_of_getElem? ho),.inl ⟨k0,List.mem_of_getElem? ho⟩⟩
 · have k1:¬ x.kind=1:=by rw [k0]; decide
   rw [if_neg k1,if_pos k0,if_neg k1,if_pos k0,if_neg k1,givG_both hp]
   obtain ⟨j,e,he,hq,hl⟩:=h.entry hx k0
   have hem:=List.mem_of_getElem? he
   have hf:=h.fit hp
   rw [oddO_of h hx k0 hem hq]
   have ho:e.2[c]?=some (e.2[c]'(by omega)):=List.getElem?_eq_getElem (by omega)
   unfold facL lastP
   dsimp only
   rw [← hq,pick_one _ hf.nd hem,last_one _ hf.nd hem,List.getElem?_map,ho]
   exact ⟨rfl,rfl,_,rfl,hf.ok e hem _ (List.mem_of_getElem? ho),.inr ⟨k0,e,hem,List.mem_of_getElem? ho⟩⟩
theorem lsum_ends {T:List Nd} (g:Nat → Rat):∀ i,i ≤ T.length → lsum ((endsK T i).map g)=sumR (fun j => match T[j]? with | some x => if x.kind=0 then g j else 0 | none => 0) i
 | 0,_ => rfl
 | i + 1,h => by
   obtain ⟨x,hx⟩:∃ x,T[i]?=some x:=⟨T[i],List.getElem?_eq_getElem (by omega)⟩
   rw [endsK_succ hx,sumR,← lsum_ends g i (by omega),hx]
   dsimp only
   by_cases hk:x.kind=0
   · rw [if_pos hk,if_pos hk,List.map_append]
     exact lsum_snoc (g i) _
   · rw [if_neg hk,if_neg hk,List.append_nil]; grind
def payN (T:List Nd) (i:Nat):Rat:=match T[i]? with
 | some x => ratOf x.pay
 | none => 0
def ofQ (T:List Nd) (r:Nat → Rat) (i:Nat):Rat:=lsum ((endsK T i).map fun j => r j * payN T j)
theorem ofQ_val {T:List Nd} {S0 S1:List Ch} (h:BothOk T S0 S1):ofQ T (chanceT T (givG true true S0 S1)) T.length=valT T (bothG S0 S1) 0:=by
 unfold ofQ
 rw [lsum_ends _ _ (Nat.le_refl _),← val_ends h.v (bothG S0 S1) (chanceT T (givG true true S0 S1)) rfl (fun i c x k hx hk => by
  obtain ⟨h1,h2,_⟩:=both_step h hx hk
  rw [h1,h2])]
 refine sumR_congr fun j hj => ?_
 unfold payN
 rw [List.getElem?_eq_getElem hj]
theorem odd_small {T:List Nd} {S0 S1:List Ch} (h:BothOk T S0 S1) (hm:mildB T=true) (h0:∀ c ∈ S0,∀ s ∈ c.2,s.size ≤ 12) (h1:∀ c ∈ S1,∀ s ∈ c.2,s.size ≤ 12) {i c k:Nat} {x:Nd} (hx:T[i]?=some x) (hk:x.next[c]?=some (k:Int)):RB 12 (oddP (bothG S0 S1) x c):=by
 obtain ⟨_,_,s,e,hs,hw⟩:=both_step h hx hk
 rw [e]
 refine ratOf_RB hs ?_ (by omega)
 have hm2:∀ x ∈ T,x.pay.size ≤ 12 ∧ ∀ s ∈ x.odds,s.size ≤ 12:=by
  unfold mildB at hm
  rw [Bool.and_eq_true,List.all_eq_true] at hm
  intro x hx
  have h1:=hm.1 x hx
  unfold smallB bulkB at h1
  simp only [Bool.and_eq_true,Bool.not_eq_true',decide_eq_false_iff_not,List.any_eq_false,decide_eq_true_eq] at h1
  exact ⟨by omega,fun s hs => by have:=h1.2 s hs; omega⟩
 rcases hw with ⟨_,hm3⟩ | ⟨hk2,e2,he2,hm3⟩
 · exact (hm2 x (List.mem_of_getElem? hx)).2 s hm3
 · rcases h.v.mover hx hk2 with hp | hp
   · rw [hp] at he2; exact h0 e2 he2 s hm3
   · rw [hp] at he2; exact h1 e2 he2 s hm3
theorem mild_len {T:List Nd} (hm:mildB T=true):T.length ≤ 40:=by
 unfold mildB at hm
 rw [Bool.and_eq_true,decide_eq_true_eq] at hm
 exact hm.2
theorem pay_small {T:List Nd} (hT:Valid T) (hm:mildB T=true) {i:Nat} {x:Nd} (hx:T[i]?=some x) (hk:x.kind=0):RatOk x.pay ∧ RB 12 (ratOf x.pay):=by
 have hr:RatOk x.pay:=by
  rcases hT.node i x hx with ⟨_,_,_,_,_,hr⟩ | ⟨k,_⟩ | ⟨k,_⟩
  · exact ratErr_ok hr
  · rw [k] at hk; cases hk
  · rw [k] at hk; cases hk
 refine ⟨hr,ratOf_RB hr ?_ (by omega)⟩
 unfold mildB at hm
 rw [Bool.and_eq_true,List.all_eq_true] at hm
 have h1:=hm.1 x (List.mem_of_getElem? hx)
 unfold smallB at h1
 simp only [Bool.and_eq_true,Bool.not_eq_true',decide_eq_false_iff_not] at h1
 omega
theorem both_sizes {T:List Nd} {S0 S1:List Ch} (h:BothOk T S0 S1) (hm:mildB T=true) (h0:∀ c ∈ S0,∀ s ∈ c.2,s.size ≤ 12) (h1:∀ c ∈ S1,∀ s ∈ c.2,s.size ≤ 12) {i:Nat} {x:Nd} (hx:T[i]?=some x) :
 RB 1500 (valT T (bothG S0 S1) i) ∧ ∀ c,RB 1500 (sumC (termT T (bothG S0 S1) x) (x.next.take c) 0) :=
 val_sizes h.v (mild_len hm) _ (fun i x hx hk => (pay_small h.v hm hx hk).2) (fun i c x k hx hk => odd_small h hm h0 h1 hx hk) hx rfl
def othG (p:Int) (S:List Ch) (q:Int):Option (List Ch):=if q=p then none else some S
def oth (T:List Nd) (p:Int) (S:List Ch) (k:Nat):Rat:=chanceT T (othG p S) k
def othO (T:List Nd) (p:Int) (S:List Ch) (i:Nat):Option (List Rat):=match T[i]? with
 | none => none
 | some x => if x.player=p then none else (S.find? fun e => e.1 == x.info).map fun e => e.2.map ratOf
structure Sure (T:List Nd) (p:Int) (P:Int → Nat) (C:List Ch):Prop where
 ok:strategyE T p C=0
 sure:∀ e ∈ C,∀ (c:Nat) (s:ByteArray),e.2[c]?=some s → ratOf s=if c=P e.1 then 1 else 0
def twoG (p:Int) (C S:List Ch) (q:Int):List Ch:=if q=p then C else S
theorem twoG_both {p:Int} (hp:p=0 ∨ p=1) (C S:List Ch) {q:Int} (hq:q=0 ∨ q=1):twoG p C S q=bothG (if p=0 then C else S) (if p=0 then S else C) q:=by
 unfold twoG bothG
 rcases hp with rfl | rfl <;> rcases hq with rfl | rfl <;> rfl
theorem BothOk.two {T:List Nd} {p:Int} {C S:List Ch} (hT:Valid T) (hp:p=0 ∨ p=1) (h1:strategyE T p C=0) (h2:strategyE T (1 - p) S=0):BothOk T (if p=0 then C else S) (if p=0 then S else C):=by
 rcases hp with rfl | rfl
 · exact ⟨hT,h1,h2⟩
 · exact ⟨hT,h2,h1⟩
theorem oth_step {T:List Nd} (hT:Valid T) {p:Int} (hp:p=0 ∨ p=1) {S:List Ch} (hS:strategyE T (1 - p) S=0) {i c k:Nat} {x:Nd} (hx:T[i]?=some x) (hk:x.next[c]?=some (k:Int)) :
 oth T p S k=oth T p S i * facL (oddsL T (othO T p S) i) c:=by
 unfold oth
 rw [chanceT_step hT _ hx hk]
 unfold facP oddsL othO othG
 rw [hx]
 dsimp only
 by_cases k1:x.kind=1
 · rw [if_pos k1,if_pos k1]
   unfold facL
   dsimp only
   rw [List.getElem?_map]
 · rw [if_neg k1,if_neg k1]
   by_cases k2:x.kind=2
   · rw [if_pos k2,if_pos k2]
     by_cases hpl:x.player=p
     · rw [if_pos hpl,if_pos hpl]
       unfold facL
       exact (Rat.mul_one _).symm
     · rw [if_neg hpl,if_neg hpl]
       have hq:=hT.mover hx k2
       have hpe:x.player=1 - p:=by omega
       obtain ⟨j,e,he,hq2,hl⟩:=str_entry hT hS (List.mem_of_getElem? hx) (isMove_iff.2 ⟨k2,hpe,rfl⟩)
       have hem:=List.mem_of_getElem? he
       have hf:=fit_of hT hS
       rw [find_entry hf.nd hem hq2]
       unfold facL
       dsimp only [Option.map_some]
       rw [← hq2,pick_one _ hf.nd hem,List.getElem?_map]
   · rw [if_neg k2,if_neg k2]
     unfold facL
     exact (Rat.mul_one _).symm
theorem sure_chance {T:List Nd} (hT:Valid T) {p:Int} (hp:p=0 ∨ p=1) {C S:List Ch} {P:Int → Nat} (hC:Sure T p P C) (hS:strategyE T (1 - p) S=0):∀ (n k:Nat),k ≤ n → k < T.length →
 chanceT T (givG true true (if p=0 then C else S) (if p=0 then S else C)) k=if rzB P (own T p k)=true then oth T p S k else 0
 | n,0,_,_ => by rw [own_zero]; rfl
 | 0,k + 1,h,_ => absurd h (by omega)
 | n + 1,k + 1,hk,hkT => by
   obtain ⟨i,c,x,hx,hn,hi⟩:=from_parent hT hkT (by omega)
   have hb:=BothOk.two (S:=S) hT hp hC.ok hS
   obtain ⟨e1,e2,_⟩:=both_step hb hx hn
   have ih:=sure_chance hT hp hC hS n i (by omega) (by omega)
   have ho:=own_step hT p hx hn
   rw [e1,ih,oth_step hT hp hS hx hn]
   by_cases hm:x.kind=2 ∧ x.player=p
   · obtain ⟨k2,hpl⟩:=hm
     rw [if_pos ⟨k2,hpl⟩] at ho
     rw [ho,rzB_snoc,e2]
     have k1:¬ x.kind=1:=by rw [k2]; decide
     have hoth:facL (oddsL T (othO T p S) i) c=1:=by
      unfold oddsL othO
      rw [hx]
      dsimp only
      rw [if_neg k1,if_pos k2,if_pos hpl]
      rfl
     rw [hoth]
     obtain ⟨j,e,he,hq2,hl⟩:=hb.entry hx k2
     have hem:=List.mem_of_getElem? he
     have hf:=hb.fit (hT.mover hx k2)
     have hc:=(List.getElem?_eq_some_iff.1 hn).1
     have hs:e.2[c]?=some (e.2[c]'(by omega)):=List.getElem?_eq_getElem (by omega)
     have heC:e ∈ C:=by
      rw [← twoG_both hp C S (hT.mover hx k2)] at hem
      unfold twoG at hem
      rwa [if_pos hpl] at hem
     have hod:oddP (bothG (if p=0 then C else S) (if p=0 then S else C)) x c=if c=P x.info then 1 else 0:=by
      unfold oddP lastP
      rw [if_neg k1,← hq2,last_one _ hf.nd hem,hs]
      exact hC.sure e heC c _ hs
     rw [hod]
     by_cases h1:rzB P (own T p i)=true
     · rw [h1,if_pos rfl]
       by_cases h2:c=P x.info
       · rw [if_pos h2,decide_eq_true h2]; rfl
       · rw [if_neg h2,decide_eq_false h2,if_neg (by simp),Rat.mul_zero]
     · rw [if_neg h1,Rat.zero_mul,if_neg (by intro h; rw [Bool.and_eq_true] at h; exact h1 h.1)]
   · rw [if_neg hm,List.append_nil] at ho
     rw [ho]
     have hfac:facL (oddsL T (oddO T (if p=0 then C else S) (if p=0 then S else C)) i) c=facL (oddsL T (othO T p S) i) c:=by
      by_cases k1:x.kind=1
      · unfold oddsL
        rw [hx]
        dsimp only
        rw [if_pos k1,if_pos k1]
      · by_cases k2:x.kind=2
        · have hpl:¬ x.player=p:=fun h => hm ⟨k2,h⟩
          unfold oddsL oddO othO
          rw [hx]
          dsimp only
          rw [if_neg k1,if_pos k2,if_neg k1,if_pos k2,if_neg hpl,← twoG_both hp C S (hT.mover hx k2)]
          unfold twoG
          rw [if_neg hpl]
        · unfold oddsL
          rw [hx]
          dsimp only
          rw [if_neg k1,if_neg k2,if_neg k1,if_neg k2]
     rw [hfac]
     by_cases h1:rzB P (own T p i)=true
     · rw [if_pos h1,if_pos h1]
     · rw [if_neg h1,if_neg h1,Rat.zero_mul]
def endQ (T:List Nd) (p:Int) (S:List Ch) (j:Nat):Rat:=if p=1 then -(oth T p S j * payN T j) else oth T p S j * payN T j
def sumsG (T:List Nd) (p:Int) (S:List Ch) (i s:Nat):Rat:=lsum ((endsK T i).map fun j => if atN T p j=s then endQ T p S j else 0)
def rowT (w m:Nat):List ByteArray:=(List.range w).map fun c => if c=m then ⟨#[49]⟩ else ⟨#[48]⟩
theorem rowT_len (w m:Nat):(rowT w m).length=w:=by unfold rowT; simp
theorem rowT_odds {w m:Nat} (h:m < w) (hw:w ≤ 6):oddsE (rowT w m)=0:=by
 have key:∀ w:Fin 7,∀ m:Fin 7,m.1 < w.1 → oddsE (rowT w.1 m.1)=0:=by decide +kernel
 exact key ⟨w,by omega⟩ ⟨m,by omega⟩ h
theorem rowT_get {w m c:Nat} {s:ByteArray} (h:(rowT w m)[c]?=some s):s=if c=m then ⟨#[49]⟩ else ⟨#[48]⟩:=by
 unfold rowT at h
 rw [List.getElem?_map] at h
 obtain ⟨d,hd,rfl⟩:=Option.map_eq_some_iff.1 h
 have:=(List.getElem?_eq_some_iff.1 hd).1
 rw [List.length_range] at this
 rw [List.getElem?_range this] at hd
 rw [Option.some.inj hd]
def certT (T:List Nd) (p:Int) (P:Int → Nat):List Ch:=(infosT T p).map fun q => (q,rowT (widthT T p q) (P q))
def fitsI (T:List Nd) (p:Int) (P:Int → Nat):Prop:=∀ q ∈ infosT T p,P q < widthT T p q
theorem widthT_le {T:List Nd} (hT:Valid T) (p q:Int):widthT T p q ≤ 6:=by
 unfold widthT
 cases hf:T.find? (fun x => isMove x p q) with
 | none => exact Nat.zero_le _
 | some y =>
   obtain ⟨i,hi⟩:=List.mem_iff_getElem?.1 (List.mem_of_find?_eq_some hf)
   exact hT.next6 hi
theorem strF_map {W:Int → Nat} {P:Int → Nat}:∀ {I:List Int},(∀ q ∈ I,P q < W q ∧ W q ≤ 6) → strF W I (I.map fun q => (q,rowT (W q) (P q)))=0
 | [],_ => rfl
 | q :: t,h => by
   obtain ⟨h1,h2⟩:=h q (List.mem_cons_self ..)
   rw [List.map_cons,strF]
   dsimp only
   rw [if_neg (by rw [rowT_len]; simp),rowT_odds h1 h2,if_neg (by decide)]
   exact strF_map fun x hx => h x (List.mem_cons_of_mem _ hx)
theorem cert_ok {T:List Nd} (hT:Valid T) {p:Int} {P:Int → Nat} (hP:fitsI T p P):strategyE T p (certT T p P)=0:=by
 unfold strategyE certT
 rw [if_neg (by simp)]
 exact strF_map fun q hq => ⟨hP q hq,widthT_le hT p q⟩
theorem cert_sure {T:List Nd} (hT:Valid T) {p:Int} {P:Int → Nat} (hP:fitsI T p P):Sure T p P (certT T p P):=by
 refine ⟨cert_ok hT hP,fun e he c s hs => ?_⟩
 obtain ⟨q,hq,rfl⟩:=List.mem_map.1 he
 dsimp only at hs ⊢
 rw [rowT_get hs]
 by_cases h:c=P q
 · rw [if_pos h,if_pos h]; decide +kernel
 · rw [if_neg h,if_neg h]; decide +kernel
theorem cert_tame (T:List Nd) (p:Int) (P:Int → Nat):∀ c ∈ certT T p P,∀ s ∈ c.2,s.size ≤ 12:=fun e he s hs => by
 obtain ⟨q,hq,rfl⟩:=List.mem_map.1 he
 obtain ⟨c,hc⟩:=List.mem_iff_getElem?.1 hs
 rw [rowT_get hc]
 split <;> decide
def digsR:List Nat → Nat → List Nat
 | [],_ => []
 | w :: t,n => (n % w) :: digsR t (n / w)
def prodL:List Nat → Nat
 | [] => 1
 | w :: t => w * prodL t
theorem digsR_len:∀ (ws:List Nat) (n:Nat),(digsR ws n).length=ws.length
 | [],_ => rfl
 | w :: t,n => by rw [digsR,List.length_cons,List.length_cons,digsR_len t]
theorem digsR_lt:∀ {ws:List Nat} {n i a w:Nat},(digsR ws n)[i]?=some a → ws[i]?=some w → 0 < w → a < w
 | [],_,_,_,_,h,_,_ => by simp [digsR] at h
 | v :: t,n,0,a,w,h,hw,hp => by
   cases h; cases hw
   exact Nat.mod_lt _ hp
 | v :: t,n,i + 1,a,w,h,hw,hp => digsR_lt (ws:=t) (n:=n / v) (i:=i) (by simpa [digsR] using h) (by simpa using hw) hp
def pureN (ws:List Nat) (n:Nat):List Nat:=(digsR ws.reverse n).reverse
theorem pureN_len (ws:List Nat) (n:Nat):(pureN ws n).length=ws.length:=by unfold pureN; rw [List.length_reverse,digsR_len,List.length_reverse]
theorem pureN_lt {ws:List Nat} {n i a w:Nat} (h:(pureN ws n)[i]?=some a) (hw:ws[i]?=some w) (hp:0 < w):a < w:=by
 unfold pureN at h
 have hi:=(List.getElem?_eq_some_iff.1 hw).1
 rw [List.getElem?_reverse (by rw [digsR_len,List.length_reverse]; exact hi),digsR_len,List.length_reverse] at h
 refine digsR_lt h ?_ hp
 rw [List.getElem?_reverse (by omega)]
 rw [show ws.length - 1 - (ws.length - 1 - i)=i by omega]
 exact hw
theorem prodL_app:∀ a b:List Nat,prodL (a ++ b)=prodL a * prodL b
 | [],b => by show prodL b=1 * prodL b; omega
 | w :: t,b => by rw [List.cons_append,prodL,prodL,prodL_app t b,Nat.mul_assoc]
theorem prodL_rev:∀ a:List Nat,prodL a.reverse=prodL a
 | [] => rfl
 | w :: t => by rw [List.reverse_cons,prodL_app,prodL_rev t,prodL,prodL,prodL]; rw [Nat.mul_one,Nat.mul_comm]
def ofL (I:List Int) (l:List Nat) (q:Int):Nat:=l.getD (I.idxOf q) 0
theorem ofL_at {I:List Int} (hn:I.Nodup) {l:List Nat} {i:Nat} {q:Int} (h:I[i]?=some q):ofL I l q=l.getD i 0:=by
 unfold ofL
 obtain ⟨h1,h2⟩:=List.getElem?_eq_some_iff.1 h
 rw [← h2,hn.idxOf_getElem i h1]
def widthsT (T:List Nd) (p:Int):List Nat:=(infosT T p).map (widthT T p)
theorem info_pos {T:List Nd} {p q:Int} (h:q ∈ infosT T p):0 < widthT T p q:=by
 unfold infosT at h
 rw [List.mem_filter] at h
 exact of_decide_eq_true h.2
theorem HasD.neg {D X:Nat} {q:Rat} (h:HasD D X q):HasD D X (-q):=by
 obtain ⟨z,h1,h2⟩:=h
 refine ⟨-z,?_,by rw [Int.natAbs_neg]; exact h2⟩
 rw [Rat.neg_mul,h1]
 exact (Rat.intCast_neg ..).symm
structure AllRB (m:Nat) (T:List Nd) (S:List Ch):Prop where
 one:1 ≤ m
 odds:∀ (i:Nat) (x:Nd),T[i]?=some x → ∀ s ∈ x.odds,RB m (ratOf s)
 str:∀ e ∈ S,∀ s ∈ e.2,RB m (ratOf s)
 pay:∀ (k:Nat) (x:Nd),T[k]?=some x → x.kind=0 → RB m (ratOf x.pay)
theorem AllRB.any {T:List Nd} (hT:Valid T) {p:Int} {S:List Ch} (hS:strategyE T (1 - p) S=0):AllRB 2000 T S:=by
 refine ⟨by omega,fun i x hx s hs => ratOf_RB2k (odds_ok hT hx s hs),fun e he s hs => ratOf_RB2k ((fit_of hT hS).ok e he s hs),fun k x hx hk => ?_⟩
 rcases hT.node k x hx with ⟨_,_,_,_,_,hr⟩ | ⟨k2,_⟩ | ⟨k2,_⟩
 · exact ratOf_RB2k (ratErr_ok hr)
 · rw [k2] at hk; cases hk
 · rw [k2] at hk; cases hk
theorem AllRB.small {T:List Nd} (hT:Valid T) {p:Int} {S:List Ch} (hS:strategyE T (1 - p) S=0) (hm:mildB T=true) (ht:tameB S=true):AllRB 12 T S:=by
 have hm2:∀ x ∈ T,∀ s ∈ x.odds,s.size ≤ 12:=fun x hx s hs => ((mild_small hm).2 x hx).2 s hs
 exact ⟨by omega,fun i x hx s hs => ratOf_RB (odds_ok hT hx s hs) (hm2 x (List.mem_of_getElem? hx) s hs) (by omega),fun e he s hs => ratOf_RB ((fit_of hT hS).ok e he s hs) (tame_small ht e he s hs) (by omega),fun k x hx hk => (pay_small hT hm hx hk).2⟩
theorem get_RB {m:Nat} (h1:1 ≤ m) {os:List ByteArray} (h:∀ s ∈ os,RB m (ratOf s)) (c:Nat):RB m (((os[c]?).map ratOf).getD 1):=by
 cases hc:os[c]? with
 | none => exact RB_1.mono (by omega)
 | some s => exact h s (List.mem_of_getElem? hc)
theorem fac_has {m:Nat} {T:List Nd} {p:Int} {S:List Ch} (hA:AllRB m T S) (i c:Nat):∃ e:Nat,e ≠ 0 ∧ e ≤ 10 ^ m ∧ HasD e (10 ^ m) (facL (oddsL T (othO T p S) i) c):=by
 have h1:=hA.one
 have key:RB m (facL (oddsL T (othO T p S) i) c):=by
  unfold oddsL
  cases hx:T[i]? with
  | none => exact RB_1.mono (by omega)
  | some x =>
    dsimp only
    by_cases k1:x.kind=1
    · rw [if_pos k1]
      show RB m (((x.odds.map ratOf)[c]?).getD 1)
      rw [List.getElem?_map]
      exact get_RB h1 (hA.odds i x hx) c
    · rw [if_neg k1]
      by_cases k2:x.kind=2
      · rw [if_pos k2]
        unfold othO
        rw [hx]
        dsimp only
        by_cases hpl:x.player=p
        · rw [if_pos hpl]; exact RB_1.mono (by omega)
        · rw [if_neg hpl]
          cases hf:S.find? (fun e => e.1 == x.info) with
          | none => exact RB_1.mono (by omega)
          | some e =>
            show RB m (((e.2.map ratOf)[c]?).getD 1)
            rw [List.getElem?_map]
            exact get_RB h1 (hA.str e (List.mem_of_find?_eq_some hf)) c
      · rw [if_neg k2]; exact RB_1.mono (by omega)
 exact ⟨_,(facL (oddsL T (othO T p S) i) c).den_nz,Nat.le_of_lt key.2,HasD.of key⟩
theorem oth_has {m:Nat} {T:List Nd} (hT:Valid T) {p:Int} (hp:p=0 ∨ p=1) {S:List Ch} (hS:strategyE T (1 - p) S=0) (hA:AllRB m T S):∀ n,n ≤ T.length → ∃ D:Nat,D ≠ 0 ∧ D ≤ 10 ^ (m * n) ∧ ∀ k,k < n → HasD D (10 ^ (m * n)) (oth T p S k)
 | 0,_ => ⟨1,by decide,by simp,fun k hk => absurd hk (by omega)⟩
 | n + 1,hn => by
   obtain ⟨D,h0,h1,h2⟩:=oth_has hT hp hS hA n (by omega)
   have hpow:10 ^ (m * n) ≤ 10 ^ (m * (n + 1)):=Nat.pow_le_pow_right (by omega) (by rw [Nat.mul_add]; omega)
   by_cases hn0:n=0
   · subst hn0
     refine ⟨1,by decide,Nat.pow_pos (by omega),fun k hk => ?_⟩
     rw [show k=0 by omega]
     exact HasD.one 1 _ (Nat.pow_pos (by omega))
   · obtain ⟨i,c,x,hx,hk,hi⟩:=from_parent hT (k:=n) (by omega) hn0
     obtain ⟨e,e0,e1,e2⟩:=fac_has (p:=p) hA i c
     refine ⟨D * e,Nat.mul_ne_zero h0 e0,?_,fun k hk2 => ?_⟩
     · calc D * e ≤ 10 ^ (m * n) * 10 ^ m:=Nat.mul_le_mul h1 e1
        _=10 ^ (m * (n + 1)):=by rw [← Nat.pow_add,Nat.mul_add,Nat.mul_one]
     · by_cases hkn:k=n
       · subst hkn
         rw [oth_step hT hp hS hx hk]
         have:=(h2 i hi).mul e2
         rw [← Nat.pow_add] at this
         rwa [Nat.mul_add,Nat.mul_one]
       · exact ((h2 k (by omega)).up e).mono hpow
theorem pays_has {m:Nat} {T:List Nd} {S:List Ch} (hA:AllRB m T S):∀ n,n ≤ T.length → ∃ D:Nat,D ≠ 0 ∧ D ≤ 10 ^ (m * n) ∧ ∀ (k:Nat) (x:Nd),k < n → T[k]?=some x → x.kind=0 → HasD D (10 ^ m) (payN T k)
 | 0,_ => ⟨1,by decide,by simp,fun k x hk => absurd hk (by omega)⟩
 | n + 1,hn => by
   obtain ⟨D,h0,h1,h2⟩:=pays_has hA n (by omega)
   obtain ⟨x,hx⟩:∃ x,T[n]?=some x:=⟨T[n],List.getElem?_eq_getElem (by omega)⟩
   by_cases hk0:x.kind=0
   · have hr:RB m (payN T n):=by
      unfold payN
      rw [hx]
      dsimp only
      exact hA.pay n x hx hk0
     refine ⟨D * (payN T n).den,Nat.mul_ne_zero h0 (payN T n).den_nz,?_,fun k y hk hy hy0 => ?_⟩
     · calc D * (payN T n).den ≤ 10 ^ (m * n) * 10 ^ m:=Nat.mul_le_mul h1 (Nat.le_of_lt hr.2)
        _=10 ^ (m * (n + 1)):=by rw [← Nat.pow_add,Nat.mul_add,Nat.mul_one]
     · by_cases hkn:k=n
       · subst hkn
         rw [Nat.mul_comm]
         exact (HasD.of hr).up D
       · exact (h2 k y (by omega) hy hy0).up _
   · refine ⟨D,h0,Nat.le_trans h1 (Nat.pow_le_pow_right (by omega) (by rw [Nat.mul_add]; omega)),fun k y hk hy hy0 => ?_⟩
     by_cases hkn:k=n
     · subst hkn
       rw [hx] at hy; cases hy
       exact absurd hy0 hk0
     · exact h2 k y (by omega) hy hy0
theorem lsum_has {D X:Nat}:∀ {l:List Rat},(∀ q ∈ l,HasD D X q) → HasD D (l.length * X) (lsum l)
 | [],_ => HasD.zero _ _
 | a :: t,h => by
   rw [lsum,List.length_cons,Nat.add_mul,Nat.one_mul,Nat.add_comm]
   exact (h a (List.mem_cons_self ..)).add (lsum_has fun q hq => h q (List.mem_cons_of_mem _ hq))
theorem best_has {m:Nat} {T:List Nd} (hT:Valid T) {p:Int} (hp:p=0 ∨ p=1) {S:List Ch} (hS:strategyE T (1 - p) S=0) (hA:AllRB m T S):∃ D:Nat,D ≠ 0 ∧ D ≤ 10 ^ (2 * m * T.length) ∧ (∀ (k:Nat) (x:Nd),T[k]?=some x → x.kind=0 → HasD D (10 ^ (m * T.length + m)) (endQ T p S k) ∧ HasD D (10 ^ (m * T.length + m)) (oth T p S k * payN T k)) ∧
 (∀ i s,i ≤ T.length → HasD D (T.length * 10 ^ (m * T.length + m)) (sumsG T p S i s)) ∧ ∀ d s,HasD D (2 ^ d * (T.length * 10 ^ (m * T.length + m))) (hsL T p (sumsG T p S T.length) d s):=by
 obtain ⟨D,h0,h1,h2⟩:=oth_has hT hp hS hA T.length (Nat.le_refl _)
 obtain ⟨E,k0,k1,k2⟩:=pays_has hA T.length (Nat.le_refl _)
 have hq:∀ (k:Nat) (x:Nd),T[k]?=some x → x.kind=0 → HasD (D * E) (10 ^ (m * T.length + m)) (oth T p S k * payN T k):=fun k x hx hk0 => by
  have:=(h2 k (Valid.lt hx)).mul (k2 k x (Valid.lt hx) hx hk0)
  rwa [← Nat.pow_add] at this
 have he:∀ (k:Nat) (x:Nd),T[k]?=some x → x.kind=0 → HasD (D * E) (10 ^ (m * T.length + m)) (endQ T p S k):=fun k x hx hk0 => by
  unfold endQ
  split
  · exact (hq k x hx hk0).neg
  · exact hq k x hx hk0
 have hs:∀ i s,i ≤ T.length → HasD (D * E) (T.length * 10 ^ (m * T.length + m)) (sumsG T p S i s):=fun i s hi => by
  unfold sumsG
  refine (lsum_has (X:=10 ^ (m * T.length + m)) fun q hq2 => ?_).mono ?_
  · obtain ⟨j,hj,rfl⟩:=List.mem_map.1 hq2
    by_cases hjs:atN T p j=s
    · rw [if_pos hjs]
      have hje:=(List.mem_filter.1 hj)
      have hjl:=List.mem_range.1 hje.1
      obtain ⟨x,hx⟩:∃ x,T[j]?=some x:=⟨T[j],List.getElem?_eq_getElem (by omega)⟩
      have hk0:=hje.2
      unfold isEnd at hk0
      rw [hx] at hk0
      exact he j x hx (of_decide_eq_true hk0)
    · rw [if_neg hjs]; exact HasD.zero _ _
  · rw [List.length_map]
    exact Nat.mul_le_mul_right _ (Nat.le_trans (endsK_le T i) hi)
 refine ⟨D * E,Nat.mul_ne_zero h0 k0,?_,fun k x hx hk0 => ⟨he k x hx hk0,hq k x hx hk0⟩,hs,fun d => ?_⟩
 · calc D * E ≤ 10 ^ (m * T.length) * 10 ^ (m * T.length):=Nat.mul_le_mul h1 k1
    _=10 ^ (2 * m * T.length):=by rw [← Nat.pow_add]; congr 1; rw [Nat.mul_assoc,Nat.two_mul]
 · induction d with
   | zero => intro s; rw [Nat.pow_zero,Nat.one_mul]; exact hs _ s (Nat.le_refl _)
   | succ d ih =>
     intro s
     have h2p:∀ X:Nat,2 ^ (d + 1) * X=2 ^ d * X + 2 ^ d * X:=fun X => by rw [Nat.pow_succ,Nat.mul_assoc,Nat.mul_comm 2 X,← Nat.mul_assoc,Nat.mul_two]
     rw [h2p]
     rw [hsL]
     cases hx:T[T.length - (d + 1)]? with
     | none => exact (ih s).mono (Nat.le_add_left _ _)
     | some x =>
       dsimp only
       split
       · dsimp only
         split
         · exact (ih _).add (ih _)
         · exact (ih s).mono (Nat.le_add_left _ _)
       · exact (ih s).mono (Nat.le_add_left _ _)
theorem sure_val {T:List Nd} (hT:Valid T) {p:Int} (hp:p=0 ∨ p=1) {C S:List Ch} {P:Int → Nat} (hC:Sure T p P C) (hS:strategyE T (1 - p) S=0) :
 valT T (bothG (if p=0 then C else S) (if p=0 then S else C)) 0=lsum ((endsL T).map fun j => if rzB P (own T p j)=true then oth T p S j * payN T j else 0):=by
 rw [← ofQ_val (BothOk.two (S:=S) hT hp hC.ok hS)]
 unfold ofQ endsL
 congr 1
 refine List.map_congr_left fun j hj => ?_
 rw [sure_chance hT hp hC hS j j (Nat.le_refl _) (endsL_lt hj)]
 split
 · rfl
 · exact Rat.zero_mul _
theorem sure_has {m:Nat} {T:List Nd} (hT:Valid T) {p:Int} (hp:p=0 ∨ p=1) {S:List Ch} (hS:strategyE T (1 - p) S=0) (hA:AllRB m T S) :
 ∃ D:Nat,D ≠ 0 ∧ D ≤ 10 ^ (2 * m * T.length) ∧ ∀ (C:List Ch) (P:Int → Nat),Sure T p P C → HasD D (T.length * 10 ^ (m * T.length + m)) (valT T (bothG (if p=0 then C else S) (if p=0 then S else C)) 0):=by
 obtain ⟨D,h0,h1,h2,_⟩:=best_has hT hp hS hA
 refine ⟨D,h0,h1,fun C P hC => ?_⟩
 rw [sure_val hT hp hC hS]
 refine (lsum_has (X:=10 ^ (m * T.length + m)) fun q hq => ?_).mono ?_
 · obtain ⟨j,hj,rfl⟩:=List.mem_map.1 hq
   by_cases hz:rzB P (own T p j)=true
   · rw [if_pos hz]
     obtain ⟨x,hx⟩:∃ x,T[j]?=some x:=⟨T[j]'(endsL_lt hj),List.getElem?_eq_getElem (endsL_lt hj)⟩
     have hk0:=(List.mem_filter.1 hj).2
     unfold isEnd at hk0
     rw [hx] at hk0
     exact (h2 j x hx (of_decide_eq_true hk0)).2
   · rw [if_neg hz]; exact HasD.zero _ _
 · rw [List.length_map]
   exact Nat.mul_le_mul_right _ (endsK_le T T.length)
theorem mix_has {D X m:Nat} {o V:Nat → Rat}:∀ n,(∀ k,k < n → RB m (o k)) → (∀ k,k < n → HasD D X (V k)) → ∃ E:Nat,E ≠ 0 ∧ E ≤ 10 ^ (m * n) ∧ ∀ j,j ≤ n → HasD (D * E) (n * (10 ^ m * X)) (sumR (fun k => o k * V k) j) ∧ (j < n → HasD (D * E) (10 ^ m * X) (o j * V j))
 | 0,_,_ => ⟨1,by decide,by simp,fun j hj => by rw [show j=0 by omega]; exact ⟨HasD.zero _ _,fun h => absurd h (by omega)⟩⟩
 | n + 1,ho,hV => by
   obtain ⟨E,h0,h1,h2⟩:=mix_has (D:=D) (X:=X) (m:=m) (o:=o) (V:=V) n (fun k hk => ho k (by omega)) (fun k hk => hV k (by omega))
   have hr:=ho n (by omega)
   have hn:HasD (D * (E * (o n).den)) (10 ^ m * X) (o n * V n):=by
    have:=((HasD.of hr).mul (hV n (by omega))).up E
    rwa [show (o n).den * D * E=D * (E * (o n).den) by rw [Nat.mul_comm (o n).den D,Nat.mul_assoc,Nat.mul_comm (o n).den E]] at this
   have hle:n * (10 ^ m * X) ≤ (n + 1) * (10 ^ m * X):=Nat.mul_le_mul_right _ (by omega)
   refine ⟨E * (o n).den,Nat.mul_ne_zero h0 (o n).den_nz,?_,fun j hj => ⟨?_,fun hjn => ?_⟩⟩
   · calc E * (o n).den ≤ 10 ^ (m * n) * 10 ^ m:=Nat.mul_le_mul h1 (Nat.le_of_lt hr.2)
      _=10 ^ (m * (n + 1)):=by rw [← Nat.pow_add,Nat.mul_add,Nat.mul_one]
   · by_cases hjn:j=n + 1
     · subst hjn
       have h3:=((h2 n (Nat.le_refl _)).1).up (o n).den
       rw [Nat.mul_assoc] at h3
       rw [sumR,Nat.add_mul,Nat.one_mul]
       exact h3.add hn
     · have h3:=((h2 j (by omega)).1).up (o n).den
       rw [Nat.mul_assoc] at h3
       exact h3.mono hle
   · by_cases hjn2:j=n
     · subst hjn2; exact hn
     · have h3:=((h2 j (by omega)).2 (by omega)).up (o n).den
       rw [Nat.mul_assoc] at h3
       exact h3
def stepAll (out:List (List Nat)) (n:Nat):List (List Nat):=out.flatMap fun l => (List.range n).map fun k => l ++ [k]
def allL (ws:List Nat):List (List Nat):=ws.foldl stepAll [[]]
theorem allL_snoc (ws:List Nat) (w:Nat):allL (ws ++ [w])=stepAll (allL ws) w:=by unfold allL; rw [List.foldl_append]; rfl
theorem pureN_snoc (ws:List Nat) (w n:Nat):pureN (ws ++ [w]) n=pureN ws (n / w) ++ [n % w]:=by
 unfold pureN
 rw [List.reverse_append,List.reverse_singleton,List.singleton_append,digsR,List.reverse_cons]
theorem step_range (f:Nat → List Nat) {w:Nat} (hw:0 < w):∀ N,stepAll ((List.range N).map f) w=(List.range (N * w)).map fun n => f (n / w) ++ [n % w]
 | 0 => by rw [Nat.zero_mul]; rfl
 | N + 1 => by
   rw [List.range_succ,List.map_append,List.map_singleton,Nat.add_mul,Nat.one_mul,List.range_add,List.map_append,← step_range f hw N,List.map_map]
   unfold stepAll
   rw [List.flatMap_append,List.flatMap_singleton]
   congr 1
   refine List.map_congr_left fun k hk => ?_
   have hk:=List.mem_range.1 hk
   show f N ++ [k]=f ((N * w + k) / w) ++ [(N * w + k) % w]
   rw [Nat.mul_comm N w,Nat.mul_add_div hw,Nat.div_eq_of_lt hk,Nat.add_zero,Nat.mul_add_mod,Nat.mod_eq_of_lt hk]
theorem allL_take {ws:List Nat} (hp:∀ w ∈ ws,0 < w):∀ i,i ≤ ws.length → allL (ws.take i)=(List.range (prodL (ws.take i))).map (pureN (ws.take i))
 | 0,_ => rfl
 | i + 1,hi => by
   rw [List.take_succ_eq_append_getElem (by omega),allL_snoc,allL_take hp i (by omega),step_range _ (hp _ (List.getElem_mem _)),prodL_app]
   show _=(List.range (prodL (ws.take i) * (ws[i] * 1))).map _
   rw [Nat.mul_one]
   refine List.map_congr_left fun n _ => ?_
   rw [pureN_snoc]
theorem allL_pure {ws:List Nat} (hp:∀ w ∈ ws,0 < w):allL ws=(List.range (prodL ws)).map (pureN ws):=by
 have:=allL_take hp ws.length (Nat.le_refl _)
 rwa [List.take_length] at this
theorem allL_len {ws:List Nat} (hp:∀ w ∈ ws,0 < w):(allL ws).length=prodL ws:=by rw [allL_pure hp]; simp
theorem prodL_take_succ {ws:List Nat} {i w:Nat} (h:ws[i]?=some w):prodL (ws.take (i + 1))=prodL (ws.take i) * w:=by
 obtain ⟨h1,h2⟩:=List.getElem?_eq_some_iff.1 h
 rw [List.take_succ_eq_append_getElem h1,h2,prodL_app]
 show _ * (w * 1)=_
 rw [Nat.mul_one]
theorem prodL_take_le {ws:List Nat} (hp:∀ w ∈ ws,0 < w) {i:Nat}:∀ d,prodL (ws.take i) ≤ prodL (ws.take (i + d))
 | 0 => Nat.le_refl _
 | d + 1 => by
   refine Nat.le_trans (prodL_take_le hp d) ?_
   by_cases hi:i + d < ws.length
   · rw [← Nat.add_assoc,prodL_take_succ (List.getElem?_eq_getElem hi)]
     exact Nat.le_mul_of_pos_right _ (hp _ (List.getElem_mem _))
   · rw [List.take_of_length_le (by omega),List.take_of_length_le (by omega)]
     exact Nat.le_refl _
def fewB (most:Nat) (ws:List Nat):Bool:=decide (prodL ws ≤ most)
theorem few_take {most:Nat} {ws:List Nat} (hp:∀ w ∈ ws,0 < w) (i:Nat) (h:most < prodL (ws.take i)):fewB most ws=false:=by
 unfold fewB
 rw [decide_eq_false_iff_not]
 intro h2
 by_cases hi:i ≤ ws.length
 · have:=prodL_take_le hp (i:=i) (ws.length - i)
   rw [show i + (ws.length - i)=ws.length by omega,List.take_length] at this
   omega
 · rw [List.take_of_length_le (by omega)] at h
   omega
theorem last_step {q:Int} {c j:Nat} {S:List Ch} {s:Ch} (hs:S[j]?=some s):lastP (S.take (j + 1)) q c=if s.1=q then ((s.2[c]?).map ratOf).getD 0 else lastP (S.take j) q c:=by
 obtain ⟨h1,h2⟩:=List.getElem?_eq_some_iff.1 hs
 unfold lastP
 rw [List.take_succ_eq_append_getElem h1,h2,List.foldl_append]; rfl
theorem term_step {T:List Nd} {G:Int → List Ch} {x:Nd} {c:Nat} {n:Int} (h:x.next[c]?=some n):sumC (termT T G x) (x.next.take (c + 1)) 0=sumC (termT T G x) (x.next.take c) 0 + oddP G x c * valT T G n.toNat:=by
 rw [sumC_take h,Nat.zero_add]
 rfl
theorem term_all {T:List Nd} (hT:Valid T) {G:Int → List Ch} {i:Nat} {x:Nd} (hx:T[i]?=some x) (hk:x.kind ≠ 0) {c:Nat} (hc:x.next.length ≤ c):sumC (termT T G x) (x.next.take c) 0=valT T G i:=by
 rw [List.take_of_length_le hc,valT_mid hT G hx hk]
 rfl
theorem digsR_get:∀ {R:List Nat} {n k w:Nat},R[k]?=some w → (digsR R n)[k]?=some ((n / prodL (R.take k)) % w)
 | [],_,_,_,h => by simp at h
 | v :: t,n,0,w,h => by
   cases h
   show some (n % v)=some (n / 1 % v)
   rw [Nat.div_one]
 | v :: t,n,k + 1,w,h => by
   show (digsR t (n / v))[k]?=some (n / (v * prodL (t.take k)) % w)
   rw [digsR_get (R:=t) (n:=n / v) (k:=k) (by simpa using h),Nat.div_div_eq_div_mul]
theorem pureN_get {ws:List Nat} {n i w:Nat} (h:ws[i]?=some w):(pureN ws n)[i]?=some ((n / prodL (ws.drop (i + 1))) % w):=by
 have hi:=(List.getElem?_eq_some_iff.1 h).1
 unfold pureN
 rw [List.getElem?_reverse (by rw [digsR_len,List.length_reverse]; exact hi),digsR_len,List.length_reverse]
 have hw:ws.reverse[ws.length - 1 - i]?=some w:=by
  rw [List.getElem?_reverse (by omega),show ws.length - 1 - (ws.length - 1 - i)=i by omega]; exact h
 rw [digsR_get hw,List.take_reverse,prodL_rev,show ws.length - (ws.length - 1 - i)=i + 1 by omega]
def fillN (ws:List Nat) (n i:Nat):List Nat:=List.replicate i 0 ++ (pureN ws n).drop i
theorem fillN_len (ws:List Nat) (n:Nat) {i:Nat} (h:i ≤ ws.length):(fillN ws n i).length=ws.length:=by
 unfold fillN
 rw [List.length_append,List.length_replicate,List.length_drop,pureN_len]; omega
theorem fillN_all (ws:List Nat) (n:Nat):fillN ws n ws.length=List.replicate ws.length 0:=by
 unfold fillN
 rw [List.drop_of_length_le (by rw [pureN_len]; exact Nat.le_refl _),List.append_nil]
theorem fillN_zero (ws:List Nat) (n:Nat):fillN ws n 0=pureN ws n:=by unfold fillN; simp
theorem fillN_step {ws:List Nat} {n i w:Nat} (h:ws[i]?=some w):(fillN ws n (i + 1)).set i ((n / prodL (ws.drop (i + 1))) % w)=fillN ws n i:=by
 have hi:=(List.getElem?_eq_some_iff.1 h).1
 have hg:=pureN_get (n:=n) h
 have hl:i < (pureN ws n).length:=by rw [pureN_len]; exact hi
 have hd:(pureN ws n).drop i=((n / prodL (ws.drop (i + 1))) % w) :: (pureN ws n).drop (i + 1):=by
  rw [List.drop_eq_getElem_cons hl]
  congr 1
  rw [List.getElem?_eq_getElem hl] at hg
  exact Option.some.inj hg
 unfold fillN
 rw [hd,List.replicate_succ',List.append_assoc,List.singleton_append,List.set_append_right _ _ (by simp),List.length_replicate,Nat.sub_self,List.set_cons_zero]
theorem left_step {ws:List Nat} {n i w:Nat} (h:ws[i]?=some w):n / prodL (ws.drop (i + 1)) / w=n / prodL (ws.drop i):=by
 obtain ⟨h1,h2⟩:=List.getElem?_eq_some_iff.1 h
 rw [Nat.div_div_eq_div_mul,List.drop_eq_getElem_cons h1,h2,prodL,Nat.mul_comm]
end Go.Proofs.YtcggohkbmhdohaaGreatDoor
