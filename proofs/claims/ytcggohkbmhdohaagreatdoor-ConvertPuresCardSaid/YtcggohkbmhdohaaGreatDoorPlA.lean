/- texts merged: BigL BigK BigD BigT BigM BigV -/
import Derived.Test.YtcggohkbmhdohaaGreatDoorLibB
import Derived.Lib.ParseIntBCases
import Derived.Lib.ItoaNum
import Derived.Lib.ItoaLen
import Derived.Lib.Join
import Derived.Lib.Repeat
namespace Go.Proofs.YtcggohkbmhdohaaGreatDoor
set_option linter.unusedVariables false
def val:List Nat → Nat
 | [] => 0
 | d :: t => d + 4294967296 * val t
def dig (n:Nat):List Nat:=if n=0 then [] else (n % 4294967296) :: dig (n / 4294967296)
termination_by n
decreasing_by omega
def Dg (l:List Nat):Prop:=∀ d ∈ l,d < 4294967296
theorem Dg.nil:Dg []:=fun d h => by cases h
theorem Dg.cons {d:Nat} {t:List Nat} (h:d < 4294967296) (ht:Dg t):Dg (d :: t):=fun x hx => by
 rcases List.mem_cons.1 hx with rfl | hx
 · exact h
 · exact ht x hx
theorem Dg.head {d:Nat} {t:List Nat} (h:Dg (d :: t)):d < 4294967296:=h d (by simp)
theorem Dg.tail {d:Nat} {t:List Nat} (h:Dg (d :: t)):Dg t:=fun x hx => h x (by simp [hx])
theorem Dg.drop {l:List Nat} (h:Dg l) (k:Nat):Dg (l.drop k):=fun x hx => h x (List.mem_of_mem_drop hx)
theorem Dg.take {l:List Nat} (h:Dg l) (k:Nat):Dg (l.take k):=fun x hx => h x (List.mem_of_mem_take hx)
theorem Dg.append {a b:List Nat} (ha:Dg a) (hb:Dg b):Dg (a ++ b):=fun x hx => (List.mem_append.1 hx).elim (ha x) (hb x)
theorem Dg.at {l:List Nat} (h:Dg l) {k x:Nat} (hx:l[k]?=some x):x < 4294967296:=h x (List.mem_of_getElem? hx)
theorem Dg.zeros (n:Nat):Dg (List.replicate n 0):=fun x hx => by rw [(List.mem_replicate.1 hx).2]; omega
theorem dig_zero:dig 0=[]:=by rw [dig,if_pos rfl]
theorem dig_pos {n:Nat} (h:n ≠ 0):dig n=(n % 4294967296) :: dig (n / 4294967296):=by rw [dig,if_neg h]
theorem val_dig (n:Nat):val (dig n)=n:=by
 induction n using Nat.strongRecOn with
 | ind n ih =>
   by_cases h:n=0
   · subst h; rw [dig_zero]; rfl
   · rw [dig_pos h,val,ih (n / 4294967296) (by omega)]; omega
theorem dig_dg (n:Nat):Dg (dig n):=by
 induction n using Nat.strongRecOn with
 | ind n ih =>
   by_cases h:n=0
   · subst h; rw [dig_zero]; exact Dg.nil
   · rw [dig_pos h]; exact Dg.cons (by omega) (ih _ (by omega))
theorem val_append (a b:List Nat):val (a ++ b)=val a + 4294967296 ^ a.length * val b:=by
 induction a with
 | nil => simp [val]
 | cons d t ih =>
   simp only [List.cons_append,val,ih,List.length_cons,Nat.pow_succ]
   rw [Nat.mul_add,Nat.mul_comm (4294967296 ^ t.length) 4294967296,Nat.mul_assoc]; omega
theorem val_lt {l:List Nat} (h:Dg l):val l < 4294967296 ^ l.length:=by
 induction l with
 | nil => simp [val]
 | cons d t ih =>
   have h1:=h.head
   have h2:=ih h.tail
   simp only [val,List.length_cons,Nat.pow_succ]
   omega
theorem val_zeros (n:Nat):val (List.replicate n 0)=0:=by
 induction n with
 | zero => rfl
 | succ n ih => rw [List.replicate_succ,val,ih]
theorem dig_nil_iff {n:Nat}:dig n=[] ↔ n=0:=by
 constructor
 · intro h; rw [← val_dig n,h]; rfl
 · rintro rfl; exact dig_zero
theorem dig_val_snoc:∀ {l:List Nat} {d:Nat},Dg l → d < 4294967296 → d ≠ 0 → dig (val (l ++ [d]))=l ++ [d]
 | [],d,_,hd,h0 => by
   have:val ([] ++ [d])=d:=by simp [val]
   rw [this,dig_pos h0]
   have h1:d / 4294967296=0:=by omega
   rw [h1,dig_zero,show d % 4294967296=d from by omega]; rfl
 | e :: l,d,hl,hd,h0 => by
   have he:=hl.head
   have ih:=dig_val_snoc hl.tail hd h0
   have hv:val (e :: l ++ [d])=e + 4294967296 * val (l ++ [d]):=rfl
   have hp:val (l ++ [d]) ≠ 0:=by
    intro e0
    rw [e0,dig_zero] at ih
    exact absurd ih.symm (by simp)
   rw [hv,dig_pos (by omega),show (e + 4294967296 * val (l ++ [d])) % 4294967296=e from by omega,show (e + 4294967296 * val (l ++ [d])) / 4294967296=val (l ++ [d]) from by omega,ih]; rfl
theorem val_snoc_zero (l:List Nat):val (l ++ [0])=val l:=by rw [val_append]; simp [val]
theorem norm_take:∀ (ds:List Nat),Dg ds → ∃ k,k ≤ ds.length ∧ dig (val ds)=ds.take k:=by
 intro ds
 induction hn:ds.length generalizing ds with
 | zero =>
   intro _
   have:ds=[]:=List.eq_nil_of_length_eq_zero hn
   subst this
   exact ⟨0,Nat.le_refl _,dig_zero⟩
 | succ n ih =>
   intro hd
   have hne:ds ≠ []:=by intro e; subst e; cases hn
   have hs:ds.dropLast ++ [ds.getLast hne]=ds:=List.dropLast_concat_getLast hne
   have hl:ds.dropLast.length=n:=by rw [List.length_dropLast]; omega
   have hdl:Dg ds.dropLast:=fun x hx => hd x (List.dropLast_subset ds hx)
   by_cases h0:ds.getLast hne=0
   · obtain ⟨k,hk,he⟩:=ih ds.dropLast hl hdl
     refine ⟨k,by omega,?_⟩
     rw [h0] at hs
     rw [← hs,val_snoc_zero,he,List.take_append_of_le_length (by omega)]
   · refine ⟨ds.length,Nat.le_of_eq hn,?_⟩
     rw [List.take_length]
     have:=dig_val_snoc hdl (hd _ (List.getLast_mem hne)) h0
     rw [hs] at this
     exact this
theorem dig_last {n:Nat}:∀ {l:List Nat} {d:Nat},dig n=l ++ [d] → d ≠ 0:=by
 induction n using Nat.strongRecOn with
 | ind n ih =>
   intro l d h
   by_cases h0:n=0
   · subst h0; rw [dig_zero] at h; exact absurd h.symm (by simp)
   · rw [dig_pos h0] at h
     cases l with
     | nil =>
       simp only [List.nil_append,List.cons.injEq] at h
       have h2:=dig_nil_iff.1 h.2
       omega
     | cons e l =>
       simp only [List.cons_append,List.cons.injEq] at h
       exact ih _ (by omega) h.2
theorem dig_len_lt {n k:Nat} (h:n < 4294967296 ^ k):(dig n).length ≤ k:=by
 induction k generalizing n with
 | zero => have:n=0:=by simpa using h
           subst this; rw [dig_zero]; simp
 | succ k ih =>
   by_cases h0:n=0
   · subst h0; rw [dig_zero]; simp
   · rw [dig_pos h0,List.length_cons]
     have:n / 4294967296 < 4294967296 ^ k:=by
      rw [Nat.pow_succ] at h; omega
     have:=ih this
     omega
theorem lt_dig_len (n:Nat):n < 4294967296 ^ (dig n).length:=by
 have:=val_lt (dig_dg n)
 rwa [val_dig] at this
theorem dig_len_le {n m:Nat} (h:n ≤ m):(dig n).length ≤ (dig m).length :=
 dig_len_lt (Nat.lt_of_le_of_lt h (lt_dig_len m))
theorem pow_le_of_dig_len {n k:Nat} (h:k < (dig n).length):4294967296 ^ k ≤ n:=by
 rcases Nat.lt_or_ge n (4294967296 ^ k) with h1 | h1
 · have:=dig_len_lt h1; omega
 · exact h1
def mulAddL (x:Nat):List Nat → Nat → List Nat
 | [],c => [c]
 | d :: t,c => (c + d * x) % 4294967296 :: mulAddL x t ((c + d * x) / 4294967296)
theorem mulAdd_carry {c d x:Nat} (hc:c < 4294967296) (hd:d < 4294967296) (hx:x < 4294967296):c + d * x < 18446744073709551616 ∧ (c + d * x) / 4294967296 < 4294967296:=by
 have:d * x ≤ 4294967295 * 4294967295:=Nat.mul_le_mul (by omega) (by omega)
 omega
theorem val_mulAddL (x:Nat):∀ (l:List Nat) (c:Nat),val (mulAddL x l c)=val l * x + c
 | [],c => by simp [mulAddL,val]
 | d :: t,c => by
   rw [mulAddL,val,val_mulAddL x t,val,Nat.add_mul,Nat.mul_assoc]
   omega
theorem dg_mulAddL {x:Nat} (hx:x < 4294967296):∀ (l:List Nat) (c:Nat),Dg l → c < 4294967296 → Dg (mulAddL x l c)
 | [],c,_,hc => Dg.cons hc Dg.nil
 | d :: t,c,hl,hc => by
   have:=mulAdd_carry hc hl.head hx
   exact Dg.cons (Nat.mod_lt _ (by omega)) (dg_mulAddL hx t _ hl.tail this.2)
def addL:List Nat → List Nat → Nat → List Nat
 | [],_,c => [c]
 | d :: t,ms,c => (c + d + ms.headD 0) % 4294967296 :: addL t ms.tail ((c + d + ms.headD 0) / 4294967296)
theorem val_addL:∀ (l ms:List Nat) (c:Nat),ms.length ≤ l.length → val (addL l ms c)=val l + val ms + c
 | [],ms,c,h => by
   have:ms=[]:=List.eq_nil_of_length_eq_zero (by simpa using h)
   subst this; simp [addL,val]
 | d :: t,ms,c,h => by
   rw [addL,val]
   cases ms with
   | nil => simp only [List.tail_nil,List.headD_nil]; rw [val_addL t [] _ (Nat.zero_le _)]; simp only [val]; omega
   | cons m ms => simp only [List.tail_cons,List.headD_cons]; rw [val_addL t ms _ (by simpa using h)]; simp only [val]; omega
theorem dg_addL:∀ (l ms:List Nat) (c:Nat),Dg l → Dg ms → c ≤ 1 → Dg (addL l ms c)
 | [],_,c,_,_,hc => Dg.cons (by omega) Dg.nil
 | d :: t,ms,c,hl,hm,hc => by
   have h1:=hl.head
   have h2:ms.headD 0 < 4294967296:=by
    cases ms with
    | nil => simp
    | cons m ms => exact hm.head
   refine Dg.cons (Nat.mod_lt _ (by omega)) (dg_addL t ms.tail _ hl.tail ?_ (by omega))
   cases ms with
   | nil => exact Dg.nil
   | cons m ms => exact hm.tail
def bor (d m b:Nat):Nat:=if d < b + m then 1 else 0
def subL:List Nat → List Nat → Nat → List Nat
 | [],_,_ => []
 | d :: t,ms,b => (d + 4294967296 - b - ms.headD 0) % 4294967296 :: subL t ms.tail (bor d (ms.headD 0) b)
theorem val_subL:∀ (l ms:List Nat) (b:Nat),Dg l → Dg ms → ms.length ≤ l.length → b ≤ 1 → val ms + b ≤ val l → val (subL l ms b)=val l - val ms - b
 | [],ms,b,_,_,h,_,hv => by
   have:ms=[]:=List.eq_nil_of_length_eq_zero (by simpa using h)
   subst this; simp only [val] at hv; simp only [subL,val]; omega
 | d :: t,ms,b,hl,hm,h,hb,hv => by
   have h1:=hl.head
   cases ms with
   | nil =>
     simp only [subL,val,List.headD_nil,List.tail_nil,Nat.sub_zero] at *
     by_cases hc:d < b + 0
     · rw [show bor d 0 b=1 from if_pos hc]
       rw [val_subL t [] 1 hl.tail Dg.nil (Nat.zero_le _) (by omega) (by simp only [val]; omega)]
       simp only [val]; omega
     · rw [show bor d 0 b=0 from if_neg hc]
       rw [val_subL t [] 0 hl.tail Dg.nil (Nat.zero_le _) (by omega) (by simp only [val]; omega)]
       simp only [val]; omega
   | cons m ms =>
     have h2:=hm.head
     simp only [subL,val,List.headD_cons,List.tail_cons,List.length_cons] at *
     by_cases hc:d < b + m
     · rw [show bor d m b=1 from if_pos hc]
       rw [val_subL t ms 1 hl.tail hm.tail (by omega) (by omega) (by omega)]
       omega
     · rw [show bor d m b=0 from if_neg hc]
       rw [val_subL t ms 0 hl.tail hm.tail (by omega) (by omega) (by omega)]
       omega
theorem dg_subL:∀ (l ms:List Nat) (b:Nat),Dg (subL l ms b)
 | [],_,_ => Dg.nil
 | d :: t,ms,b => Dg.cons (Nat.mod_lt _ (by omega)) (dg_subL t _ _)
def divL (x:Nat):List Nat → List Nat × Nat
 | [] => ([],0)
 | d :: t => ((((divL x t).2 * 4294967296 + d) / x) :: (divL x t).1,((divL x t).2 * 4294967296 + d) % x)
theorem divL_lt {x:Nat} (hx:0 < x):∀ l:List Nat,(divL x l).2 < x
 | [] => hx
 | d :: t => Nat.mod_lt _ hx
theorem divL_val {x:Nat} (hx:0 < x):∀ l:List Nat,val (divL x l).1 * x + (divL x l).2=val l
 | [] => by simp [divL,val]
 | d :: t => by
   have ih:=divL_val hx t
   have e:=Nat.div_add_mod ((divL x t).2 * 4294967296 + d) x
   simp only [divL,val,Nat.add_mul]
   rw [Nat.mul_assoc]
   rw [Nat.mul_comm x] at e
   omega
theorem divL_dg {x:Nat} (hx:0 < x):∀ l:List Nat,Dg l → Dg (divL x l).1
 | [],_ => Dg.nil
 | d :: t,h => by
   have h1:=divL_lt hx t
   have h2:=h.head
   refine Dg.cons ?_ (divL_dg hx t h.tail)
   apply Nat.div_lt_of_lt_mul
   have:(divL x t).2 * 4294967296 + 4294967296 ≤ x * 4294967296:=by
    have:=Nat.mul_le_mul_right 4294967296 (show (divL x t).2 + 1 ≤ x from h1)
    rw [Nat.add_mul] at this; omega
   omega
theorem divL_div {x n:Nat} (hx:0 < x):val (divL x (dig n)).1=n / x ∧ (divL x (dig n)).2=n % x:=by
 have h1:=divL_val hx (dig n)
 have h2:=divL_lt hx (dig n)
 rw [val_dig] at h1
 generalize val (divL x (dig n)).1=q at *
 generalize (divL x (dig n)).2=r at *
 subst h1
 constructor
 · rw [Nat.mul_comm,Nat.mul_add_div hx,Nat.div_eq_of_lt h2]; omega
 · rw [Nat.mul_comm,Nat.mul_add_mod,Nat.mod_eq_of_lt h2]
def mulIn (a:Nat):List Nat → List Nat → Nat → List Nat
 | [],os,c => c :: os.tail
 | b :: ms,os,c => (c + (a * b + os.headD 0)) % 4294967296 :: mulIn a ms os.tail ((c + (a * b + os.headD 0)) / 4294967296)
theorem mulIn_carry {a b o c:Nat} (ha:a < 4294967296) (hb:b < 4294967296) (ho:o < 4294967296) (hc:c < 4294967296) :
 c + (a * b + o) < 18446744073709551616 ∧ (c + (a * b + o)) / 4294967296 < 4294967296:=by
 have:a * b ≤ 4294967295 * 4294967295:=Nat.mul_le_mul (by omega) (by omega)
 omega
theorem mulIn_len (a:Nat):∀ (ms os:List Nat) (c:Nat),ms.length < os.length → (mulIn a ms os c).length=os.length
 | [],os,c,h => by
   cases os with
   | nil => simp at h
   | cons o os => simp [mulIn]
 | b :: ms,os,c,h => by
   cases os with
   | nil => simp at h
   | cons o os => simp only [mulIn,List.tail_cons,List.length_cons]; rw [mulIn_len a ms os _ (by simpa using h)]
theorem mulIn_val (a:Nat):∀ (ms os:List Nat) (c:Nat),ms.length < os.length → os.getD ms.length 0=0 → val (mulIn a ms os c)=a * val ms + val os + c
 | [],os,c,h,h0 => by
   cases os with
   | nil => simp at h
   | cons o os =>
     simp at h0
     subst h0
     simp only [mulIn,val,List.tail_cons]; omega
 | b :: ms,os,c,h,h0 => by
   cases os with
   | nil => simp at h
   | cons o os =>
     simp only [mulIn,val,List.tail_cons,List.headD_cons]
     rw [mulIn_val a ms os _ (by simpa using h) (by simpa using h0),Nat.mul_add a,Nat.mul_left_comm a 4294967296]
     omega
theorem mulIn_past (a:Nat):∀ (ms os:List Nat) (c k:Nat),ms.length < os.length → ms.length < k → (mulIn a ms os c).getD k 0=os.getD k 0
 | [],os,c,k,h,hk => by
   cases os with
   | nil => simp at h
   | cons o os =>
     match k with
     | 0 => simp at hk
     | k + 1 => simp [mulIn]
 | b :: ms,os,c,k,h,hk => by
   cases os with
   | nil => simp at h
   | cons o os =>
     match k with
     | 0 => simp at hk
     | k + 1 =>
       have:=mulIn_past a ms os ((c + (a * b + o)) / 4294967296) k (by simpa using h) (by simpa using hk)
       simp only [mulIn,List.tail_cons,List.headD_cons,List.getD_cons_succ]
       exact this
def mulOut (ms:List Nat):List Nat → List Nat → List Nat
 | [],os => os
 | a :: ns,os => (mulIn a ms os 0).headD 0 :: mulOut ms ns (mulIn a ms os 0).tail
theorem mulOut_val {ms:List Nat}:∀ (ns os:List Nat),ns.length + ms.length ≤ os.length → (∀ k,ms.length ≤ k → os.getD k 0=0) → val (mulOut ms ns os)=val ns * val ms + val os
 | [],os,_,_ => by simp [mulOut,val]
 | a :: ns,os,hl,hz => by
   simp only [List.length_cons] at hl
   have h1:=mulIn_len a ms os 0 (by omega)
   have h2:=mulIn_val a ms os 0 (by omega) (hz _ (Nat.le_refl _))
   have h3:=fun k (hk:ms.length < k) => mulIn_past a ms os 0 k (by omega) hk
   cases hr:mulIn a ms os 0 with
   | nil => rw [hr] at h1; simp at h1; omega
   | cons r rs =>
     rw [hr] at h1 h2 h3
     simp only [List.length_cons] at h1
     simp only [mulOut,hr,val,List.headD_cons,List.tail_cons] at h2 ⊢
     rw [mulOut_val ns rs (by omega) (fun k hk => by
      have:=h3 (k + 1) (by omega)
      rw [List.getD_cons_succ] at this
      rw [this]; exact hz _ (by omega)),Nat.add_mul,Nat.mul_add,Nat.mul_assoc]
     omega
theorem knuth_low {P a b ut vt q U V:Nat} (hU:U=a + P * ut) (hV:V=b + P * vt) (ha:a < P) (h:q * V ≤ U):q * vt ≤ ut:=by
 rcases Nat.lt_or_ge ut (q * vt) with h1 | h1
 · exfalso
   have h2:P * (ut + 1) ≤ P * (q * vt):=Nat.mul_le_mul_left P h1
   have h3:P * (q * vt) ≤ q * V:=by
    rw [hV,Nat.mul_add,Nat.mul_left_comm P q vt]; omega
   rw [Nat.mul_add] at h2
   omega
 · exact h1
theorem knuth_high {P a b ut vt q g U V:Nat} (hU:U=a + P * ut) (hV:V=b + P * vt) (hb:b < P) (h:U < (q + 1) * V) (hg:g * vt ≤ ut) (hgv:g ≤ vt + 1):g ≤ q + 1:=by
 rcases Nat.lt_or_ge (q + 1) g with h1 | h1
 · exfalso
   obtain ⟨m,rfl⟩:∃ m,g=m + 1:=⟨g - 1,by omega⟩
   have h2:(q + 1) * V ≤ m * V:=Nat.mul_le_mul_right V (by omega)
   have h3:m * V ≤ m * (P * (vt + 1)):=Nat.mul_le_mul_left m (by rw [hV,Nat.mul_add]; omega)
   have h4:P * ((m + 1) * vt) ≤ P * ut:=Nat.mul_le_mul_left P hg
   rw [Nat.mul_left_comm m P] at h3
   have h5:P * ((m + 1) * vt) < P * (m * (vt + 1)):=by omega
   have h6:=Nat.lt_of_mul_lt_mul_left h5
   rw [Nat.add_mul,Nat.mul_add] at h6
   omega
 · exact h1
def mulSub (g:Nat):List Nat → List Nat → Nat → Nat → List Nat × Nat × Nat
 | [],_,c,b => ([],c,b)
 | u :: us,vs,c,b =>
   let r:=mulSub g us vs.tail ((c + g * vs.headD 0) / 4294967296) (bor u ((c + g * vs.headD 0) % 4294967296) b)
   ((u + 4294967296 - b - (c + g * vs.headD 0) % 4294967296) % 4294967296 :: r.1,r.2)
theorem mulSub_len (g:Nat):∀ (us vs:List Nat) (c b:Nat),(mulSub g us vs c b).1.length=us.length
 | [],_,_,_ => rfl
 | u :: us,vs,c,b => by simp only [mulSub,List.length_cons]; rw [mulSub_len]
theorem mulSub_dg (g:Nat):∀ (us vs:List Nat) (c b:Nat),Dg (mulSub g us vs c b).1
 | [],_,_,_ => Dg.nil
 | u :: us,vs,c,b => Dg.cons (Nat.mod_lt _ (by omega)) (mulSub_dg g us _ _ _)
theorem bor_le (d m b:Nat):bor d m b ≤ 1:=by unfold bor; split <;> omega
theorem bor_eq {d m b:Nat} (hd:d < 4294967296) (hm:m < 4294967296) (hb:b ≤ 1):d + 4294967296 * bor d m b=(d + 4294967296 - b - m) % 4294967296 + m + b:=by
 unfold bor; split <;> omega
theorem mulSub_bor (g:Nat):∀ (us vs:List Nat) (c b:Nat),b ≤ 1 → (mulSub g us vs c b).2.2 ≤ 1
 | [],_,_,b,hb => hb
 | u :: us,vs,c,b,_ => mulSub_bor g us _ _ _ (bor_le _ _ _)
theorem val_head_tail (vs:List Nat):val vs=vs.headD 0 + 4294967296 * val vs.tail:=by
 cases vs with
 | nil => rfl
 | cons v vs => rfl
theorem mulSub_val (g:Nat):∀ (us vs:List Nat) (c b:Nat),Dg us → vs.length ≤ us.length → b ≤ 1 →
 val us + 4294967296 ^ us.length * ((mulSub g us vs c b).2.1 + (mulSub g us vs c b).2.2)=val (mulSub g us vs c b).1 + g * val vs + c + b
 | [],vs,c,b,_,h,_ => by
   have:vs=[]:=List.eq_nil_of_length_eq_zero (by simpa using h)
   subst this; simp [mulSub,val]
 | u :: us,vs,c,b,hu,h,hb => by
   have hv:=val_head_tail vs
   have ih:=mulSub_val g us vs.tail ((c + g * vs.headD 0) / 4294967296) (bor u ((c + g * vs.headD 0) % 4294967296) b) hu.tail (by rw [List.length_tail]; simp at h; omega) (bor_le _ _ _)
   have e:=bor_eq (m:=(c + g * vs.headD 0) % 4294967296) hu.head (Nat.mod_lt _ (by omega)) hb
   simp only [mulSub,val,List.length_cons,Nat.pow_succ]
   rw [hv,Nat.mul_add g,Nat.mul_left_comm g 4294967296,Nat.mul_comm (4294967296 ^ us.length) 4294967296,Nat.mul_assoc]
   generalize (mulSub g us vs.tail ((c + g * vs.headD 0) / 4294967296) (bor u ((c + g * vs.headD 0) % 4294967296) b))=R at *
   generalize 4294967296 ^ us.length * (R.2.1 + R.2.2)=X at *
   generalize g * vs.headD 0=p at *
   generalize g * val vs.tail=p2 at *
   generalize bor u ((c + p) % 4294967296) b=bb at *
   omega
theorem mulSub_carry (g:Nat):∀ (us vs:List Nat) (c b:Nat),4294967296 ^ us.length * (mulSub g us vs c b).2.1 ≤ c + g * val vs
 | [],vs,c,b => by simp [mulSub]
 | u :: us,vs,c,b => by
   have hv:=val_head_tail vs
   have ih:=mulSub_carry g us vs.tail ((c + g * vs.headD 0) / 4294967296) (bor u ((c + g * vs.headD 0) % 4294967296) b)
   simp only [mulSub,List.length_cons,Nat.pow_succ]
   rw [hv,Nat.mul_add g,Nat.mul_left_comm g 4294967296,Nat.mul_comm (4294967296 ^ us.length) 4294967296,Nat.mul_assoc]
   generalize (mulSub g us vs.tail ((c + g * vs.headD 0) / 4294967296) (bor u ((c + g * vs.headD 0) % 4294967296) b))=R at *
   generalize 4294967296 ^ us.length * R.2.1=X at *
   generalize g * vs.headD 0=p at *
   generalize g * val vs.tail=p2 at *
   omega
def addN:List Nat → List Nat → Nat → List Nat × Nat
 | [],_,c => ([],c)
 | u :: us,vs,c =>
   let r:=addN us vs.tail ((c + u + vs.headD 0) / 4294967296)
   ((c + u + vs.headD 0) % 4294967296 :: r.1,r.2)
theorem addN_len:∀ (us vs:List Nat) (c:Nat),(addN us vs c).1.length=us.length
 | [],_,_ => rfl
 | u :: us,vs,c => by simp only [addN,List.length_cons]; rw [addN_len]
theorem addN_dg:∀ (us vs:List Nat) (c:Nat),Dg (addN us vs c).1
 | [],_,_ => Dg.nil
 | u :: us,vs,c => Dg.cons (Nat.mod_lt _ (by omega)) (addN_dg us _ _)
theorem addN_val:∀ (us vs:List Nat) (c:Nat),vs.length ≤ us.length → val us + val vs + c=val (addN us vs c).1 + 4294967296 ^ us.length * (addN us vs c).2
 | [],vs,c,h => by
   have:vs=[]:=List.eq_nil_of_length_eq_zero (by simpa using h)
   subst this; simp [addN,val]
 | u :: us,vs,c,h => by
   have hv:=val_head_tail vs
   have ih:=addN_val us vs.tail ((c + u + vs.headD 0) / 4294967296) (by rw [List.length_tail]; simp at h; omega)
   simp only [addN,val,List.length_cons,Nat.pow_succ]
   rw [hv,Nat.mul_comm (4294967296 ^ us.length) 4294967296,Nat.mul_assoc]
   generalize (addN us vs.tail ((c + u + vs.headD 0) / 4294967296))=R at *
   generalize 4294967296 ^ us.length * R.2=X at *
   omega
theorem knuth_end {us vs:List Nat} {g:Nat} (hu:Dg us) (hv:Dg vs) (hl:us.length=vs.length + 1) (hg:g < 4294967296) (hV:0 < val vs)
 (h1:val us / val vs ≤ g) (h2:g ≤ val us / val vs + 1) :
 ((mulSub g us vs 0 0).2.2=0 → g=val us / val vs ∧ val (mulSub g us vs 0 0).1=val us % val vs) ∧
 ((mulSub g us vs 0 0).2.2 ≠ 0 → 1 ≤ g ∧ g - 1=val us / val vs ∧ val (addN (mulSub g us vs 0 0).1 vs 0).1=val us % val vs):=by
 have e1:=mulSub_val g us vs 0 0 hu (by omega) (by omega)
 have e2:=mulSub_carry g us vs 0 0
 have e3:=mulSub_bor g us vs 0 0 (by omega)
 have e4:=addN_val (mulSub g us vs 0 0).1 vs 0 (by rw [mulSub_len]; omega)
 have e5:=addN_dg (mulSub g us vs 0 0).1 vs 0
 have e6:=val_lt e5
 have e7:=val_lt (mulSub_dg g us vs 0 0)
 have e8:=val_lt hu
 have e9:=val_lt hv
 rw [addN_len,mulSub_len] at e6
 rw [mulSub_len] at e4 e7
 have hgV:g * val vs < 4294967296 ^ us.length:=by
  rw [hl,Nat.pow_succ]
  calc g * val vs < 4294967296 * val vs:=Nat.mul_lt_mul_of_pos_right hg hV
   _ ≤ 4294967296 * 4294967296 ^ vs.length:=Nat.mul_le_mul_left _ (Nat.le_of_lt e9)
   _=4294967296 ^ vs.length * 4294967296:=Nat.mul_comm _ _
 have hVP:val vs < 4294967296 ^ us.length:=Nat.lt_of_lt_of_le e9 (Nat.pow_le_pow_right (by omega) (by omega))
 have hP:0 < 4294967296 ^ us.length:=Nat.pow_pos (by omega)
 have hc:(mulSub g us vs 0 0).2.1=0:=by
  rcases Nat.eq_zero_or_pos (mulSub g us vs 0 0).2.1 with h | h
  · exact h
  · exfalso
    have:=Nat.mul_le_mul_left (4294967296 ^ us.length) h
    omega
 rw [hc] at e1
 generalize (mulSub g us vs 0 0).2.2=bb at *
 generalize hO:(mulSub g us vs 0 0).1=O at *
 generalize (addN O vs 0).2=cc at *
 generalize val (addN O vs 0).1=R at *
 generalize 4294967296 ^ us.length=P at *
 have hq:=Nat.div_add_mod (val us) (val vs)
 have hr:=Nat.mod_lt (val us) hV
 generalize val us / val vs=q at *
 generalize val us % val vs=r at *
 generalize val us=U at *
 generalize val vs=V at *
 generalize val O=o at *
 constructor
 · intro hb
   subst hb
   have hgq:g ≤ q:=by
    rcases Nat.lt_or_ge q g with h | h
    · exfalso
      have:=Nat.mul_le_mul_right V (show q + 1 ≤ g from h)
      rw [Nat.add_mul,Nat.mul_comm q V] at this
      omega
    · exact h
   have:g=q:=by omega
   subst this
   rw [Nat.mul_comm] at hq
   exact ⟨rfl,by omega⟩
 · intro hb
   have hb1:bb=1:=by omega
   subst hb1
   have hgq:g=q + 1:=by
    rcases Nat.lt_or_ge q g with h | h
    · omega
    · exfalso
      have:=Nat.mul_le_mul_right V h
      rw [Nat.mul_comm q V] at this
      omega
   subst hgq
   rw [Nat.add_mul,Nat.mul_comm q V] at e1
   refine ⟨by omega,by omega,?_⟩
   have h3:R + P * cc=P + r:=by omega
   have hcc:cc=1:=by
    rcases Nat.lt_or_ge cc 1 with h | h
    · have:cc=0:=by omega
      subst this; omega
    · rcases Nat.lt_or_ge 1 cc with h4 | h4
      · exfalso
        have:=Nat.mul_le_mul_left P (show 2 ≤ cc from h4)
        omega
      · omega
   subst hcc
   omega
theorem val_top3 {us:List Nat} {n:Nat} (hl:us.length=n + 3):val us=val (us.take n) + 4294967296 ^ n * (us.getD n 0 + 4294967296 * us.getD (n + 1) 0 + 18446744073709551616 * us.getD (n + 2) 0):=by
 have h1:us=us.take n ++ us.drop n:=(List.take_append_drop n us).symm
 have h2:us.drop n=[us.getD n 0,us.getD (n + 1) 0,us.getD (n + 2) 0]:=by
  apply List.ext_getElem
  · simp; omega
  · intro i h3 h4
    simp only [List.getElem_drop]
    match i with
    | 0 => simp [List.getD,List.getElem?_eq_getElem (show n < us.length by omega)]
    | 1 => simp [List.getD,List.getElem?_eq_getElem (show n + 1 < us.length by omega)]
    | 2 => simp [List.getD,List.getElem?_eq_getElem (show n + 2 < us.length by omega)]
    | i + 3 => simp at h4; omega
 have h3:(us.take n).length=n:=by simp; omega
 have h4:val us=val (us.take n ++ us.drop n):=by rw [← h1]
 rw [h4,val_append,h2,h3]
 simp only [val]
 congr 2
 omega
theorem val_top2 {vs:List Nat} {n:Nat} (hl:vs.length=n + 2):val vs=val (vs.take n) + 4294967296 ^ n * (vs.getD n 0 + 4294967296 * vs.getD (n + 1) 0):=by
 have h1:vs=vs.take n ++ vs.drop n:=(List.take_append_drop n vs).symm
 have h2:vs.drop n=[vs.getD n 0,vs.getD (n + 1) 0]:=by
  apply List.ext_getElem
  · simp; omega
  · intro i h3 h4
    simp only [List.getElem_drop]
    match i with
    | 0 => simp [List.getD,List.getElem?_eq_getElem (show n < vs.length by omega)]
    | 1 => simp [List.getD,List.getElem?_eq_getElem (show n + 1 < vs.length by omega)]
    | i + 2 => simp at h4; omega
 have h3:(vs.take n).length=n:=by simp; omega
 have h4:val vs=val (vs.take n ++ vs.drop n):=by rw [← h1]
 rw [h4,val_append,h2,h3]
 simp only [val]
 congr 2
theorem knuth_guess {us vs:List Nat} {n q:Nat} (hu:Dg us) (hv:Dg vs) (hlu:us.length=n + 3) (hlv:vs.length=n + 2) (hq:val us / val vs=q) (hV:0 < val vs) :
 q * (vs.getD n 0 + 4294967296 * vs.getD (n + 1) 0) ≤ us.getD n 0 + 4294967296 * us.getD (n + 1) 0 + 18446744073709551616 * us.getD (n + 2) 0 ∧
 ∀ g,g * (vs.getD n 0 + 4294967296 * vs.getD (n + 1) 0) ≤ us.getD n 0 + 4294967296 * us.getD (n + 1) 0 + 18446744073709551616 * us.getD (n + 2) 0 → g < 4294967296 → 1 ≤ vs.getD (n + 1) 0 → g ≤ q + 1:=by
 have e1:=val_top3 hlu
 have e2:=val_top2 hlv
 have e3:=val_lt (hu.take n)
 have e4:=val_lt (hv.take n)
 have l1:(us.take n).length=n:=by simp; omega
 have l2:(vs.take n).length=n:=by simp; omega
 rw [l1] at e3
 rw [l2] at e4
 have hdm:=Nat.div_add_mod (val us) (val vs)
 have hm:=Nat.mod_lt (val us) hV
 rw [hq] at hdm
 refine ⟨knuth_low e1 e2 e3 ?_,fun g hg h1 h2 => knuth_high e1 e2 e4 ?_ hg (by omega)⟩
 · rw [Nat.mul_comm]; omega
 · rw [Nat.add_mul,Nat.mul_comm q]; omega
def AllD (l:List UInt8):Prop:=∀ b ∈ l,48 ≤ b.toNat ∧ b.toNat ≤ 57
def decF (a:Nat) (l:List UInt8):Nat:=l.foldl (fun a b => a * 10 + (b.toNat - 48)) a
theorem decF_nil (a:Nat):decF a []=a:=rfl
theorem decF_cons (a:Nat) (b:UInt8) (t:List UInt8):decF a (b :: t)=decF (a * 10 + (b.toNat - 48)) t:=by unfold decF; rw [List.foldl_cons]
theorem AllD.nil:AllD []:=fun b h => by cases h
theorem AllD.head {b:UInt8} {t:List UInt8} (h:AllD (b :: t)):48 ≤ b.toNat ∧ b.toNat ≤ 57:=h b (by simp)
theorem AllD.tail {b:UInt8} {t:List UInt8} (h:AllD (b :: t)):AllD t:=fun x hx => h x (by simp [hx])
theorem AllD.take {l:List UInt8} (h:AllD l) (k:Nat):AllD (l.take k):=fun x hx => h x (List.mem_of_mem_take hx)
theorem AllD.drop {l:List UInt8} (h:AllD l) (k:Nat):AllD (l.drop k):=fun x hx => h x (List.mem_of_mem_drop hx)
theorem AllD.append {a b:List UInt8} (ha:AllD a) (hb:AllD b):AllD (a ++ b):=fun x hx => (List.mem_append.1 hx).elim (ha x) (hb x)
theorem decF_append (l m:List UInt8):∀ a,decF a (l ++ m)=decF (decF a l) m:=by
 induction l with
 | nil => intro a; rfl
 | cons b t ih => intro a; exact ih _
theorem decF_split (l:List UInt8):∀ a,decF a l=a * 10 ^ l.length + decF 0 l:=by
 induction l with
 | nil => intro a; simp [decF_nil]
 | cons b t ih =>
   intro a
   rw [decF_cons,ih,decF_cons,ih (0 * 10 + (b.toNat - 48)),List.length_cons,Nat.pow_succ]
   rw [Nat.zero_mul,Nat.zero_add,Nat.add_mul,Nat.mul_assoc,Nat.mul_comm 10]
   omega
theorem decF_lt {l:List UInt8} (h:AllD l):decF 0 l < 10 ^ l.length:=by
 induction l with
 | nil => simp [decF_nil]
 | cons b t ih =>
   have h1:=h.head
   have h2:=ih h.tail
   rw [decF_cons,decF_split,List.length_cons,Nat.pow_succ]
   have:(0 * 10 + (b.toNat - 48)) * 10 ^ t.length ≤ 9 * 10 ^ t.length:=Nat.mul_le_mul_right _ (by omega)
   omega
theorem decF_ge (l:List UInt8) (a:Nat):a ≤ decF a l:=by
 rw [decF_split]
 have:a * 1 ≤ a * 10 ^ l.length:=Nat.mul_le_mul_left a (Nat.pow_pos (by omega))
 omega
theorem parseM_ok (M:Nat):∀ (l:List UInt8) (a:Nat),AllD l → decF a l ≤ M → M ≤ 4294967295 → Lib.parseUintM M a l=.ok (decF a l)
 | [],a,_,_,_ => rfl
 | b :: t,a,h,hM,hM2 => by
   have h1:=h.head
   have h2:=decF_ge t (a * 10 + (b.toNat - 48))
   rw [decF_cons] at hM
   rw [Lib.parseUintM,if_pos h1,if_neg (by omega),if_neg (by omega),decF_cons]
   exact parseM_ok M t _ h.tail hM hM2
theorem parse32_ok {l:List UInt8} (h:AllD l) (h0:l ≠ []) (h9:l.length ≤ 9):Lib.parseUintB 32 l=.ok (decF 0 l):=by
 rw [Lib.parseUintB,if_neg h0]
 refine parseM_ok _ l 0 h ?_ (by decide)
 have h1:=decF_lt h
 have h2:10 ^ l.length ≤ 10 ^ 9:=Nat.pow_le_pow_right (by omega) h9
 omega
theorem dd_small {n:Nat} (h:n < 10):Lib.decDigits n=[UInt8.ofNat (48 + n)]:=by rw [Lib.decDigits,dif_pos h]
theorem dd_big {n:Nat} (h:¬ n < 10):Lib.decDigits n=Lib.decDigits (n / 10) ++ [UInt8.ofNat (48 + n % 10)]:=by rw [Lib.decDigits,dif_neg h]
theorem digit_toNat {d:Nat} (h:d < 10):(UInt8.ofNat (48 + d)).toNat=48 + d:=by
 rw [UInt8.toNat_ofNat']; omega
theorem dd_allD (n:Nat):AllD (Lib.decDigits n):=by
 induction n using Nat.strongRecOn with
 | ind n ih =>
   by_cases h:n < 10
   · rw [dd_small h]
     intro b hb
     obtain rfl:=List.mem_singleton.1 hb
     rw [digit_toNat h]; omega
   · rw [dd_big h]
     refine (ih _ (by omega)).append ?_
     intro b hb
     obtain rfl:=List.mem_singleton.1 hb
     rw [digit_toNat (by omega)]; omega
theorem decF_dd (n:Nat):decF 0 (Lib.decDigits n)=n:=by
 induction n using Nat.strongRecOn with
 | ind n ih =>
   by_cases h:n < 10
   · rw [dd_small h,decF_cons,decF_nil,digit_toNat h]; omega
   · rw [dd_big h,decF_append,ih _ (by omega),decF_cons,decF_nil,digit_toNat (by omega)]; omega
theorem dd_ne (n:Nat):Lib.decDigits n ≠ []:=by
 by_cases h:n < 10
 · rw [dd_small h]; simp
 · rw [dd_big h]; simp
def stripL:List UInt8 → List UInt8
 | [] => []
 | b :: t => if b=48 ∧ t ≠ [] then stripL t else b :: t
theorem stripL_snoc (d:UInt8):∀ l:List UInt8,l ≠ [] → stripL (l ++ [d])=if stripL l=[48] then [d] else stripL l ++ [d]
 | [b],_ => by
   by_cases hb:b=48
   · subst hb; simp [stripL]
   · simp [stripL,hb]
 | b :: c :: t,_ => by
   have ih:=stripL_snoc d (c :: t) (by simp)
   by_cases hb:b=48
   · subst hb
     have e1:stripL (48 :: c :: t ++ [d])=stripL (c :: t ++ [d]):=by
      show stripL (48 :: (c :: t ++ [d]))=_
      rw [stripL,if_pos ⟨rfl,by simp⟩]
     have e2:stripL (48 :: c :: t)=stripL (c :: t):=by rw [stripL,if_pos ⟨rfl,by simp⟩]
     rw [e1,e2,ih]
   · have e1:stripL (b :: c :: t ++ [d])=b :: c :: t ++ [d]:=by
      show stripL (b :: (c :: t ++ [d]))=_
      rw [stripL,if_neg (by simp [hb])]; rfl
     have e2:stripL (b :: c :: t)=b :: c :: t:=by rw [stripL,if_neg (by simp [hb])]
     rw [e1,e2,if_neg (by simp)]
theorem byte_digit {d:UInt8} (h:48 ≤ d.toNat ∧ d.toNat ≤ 57):UInt8.ofNat (48 + (d.toNat - 48))=d:=by
 apply UInt8.toNat_inj.1
 rw [digit_toNat (by omega)]; omega
theorem stripL_dd {l:List UInt8}:AllD l → l ≠ [] → stripL l=Lib.decDigits (decF 0 l):=by
 induction hn:l.length generalizing l with
 | zero => intro _ h; exact absurd (List.eq_nil_of_length_eq_zero hn) h
 | succ n ih =>
   intro h hne
   have hs:l.dropLast ++ [l.getLast hne]=l:=List.dropLast_concat_getLast hne
   have hd:=h (l.getLast hne) (List.getLast_mem hne)
   have hdl:AllD l.dropLast:=fun x hx => h x (List.dropLast_subset l hx)
   have hl:l.dropLast.length=n:=by rw [List.length_dropLast]; omega
   generalize l.dropLast=m at *
   generalize l.getLast hne=d at *
   subst hs
   rw [decF_append,decF_cons,decF_nil]
   by_cases hm:m=[]
   · subst hm
     rw [decF_nil,dd_small (by omega)]
     simp only [List.nil_append,Nat.zero_mul,Nat.zero_add]
     rw [byte_digit hd]
     simp [stripL]
   · rw [stripL_snoc d m hm,ih hl hdl hm]
     by_cases h0:decF 0 m=0
     · rw [h0,dd_small (show 0 < 10 by omega),if_pos (by decide),Nat.zero_mul,Nat.zero_add,dd_small (by omega),byte_digit hd]
     · have h1:Lib.decDigits (decF 0 m) ≠ [48]:=by
        intro e
        have:=congrArg (decF 0) e
        rw [decF_dd] at this
        exact h0 this
       rw [if_neg h1,dd_big (n:=decF 0 m * 10 + (d.toNat - 48)) (by omega),show (decF 0 m * 10 + (d.toNat - 48)) / 10=decF 0 m by omega,show (decF 0 m * 10 + (d.toNat - 48)) % 10=d.toNat - 48 by omega,byte_digit hd]
def Canon (l:List UInt8):Prop:=AllD l ∧ l ≠ [] ∧ (l.head?=some 48 → l.length=1)
theorem canon_dd {l:List UInt8} (h:Canon l):l=Lib.decDigits (decF 0 l):=by
 rw [← stripL_dd h.1 h.2.1]
 cases l with
 | nil => rfl
 | cons b t =>
   rw [stripL,if_neg]
   rintro ⟨rfl,ht⟩
   have:=h.2.2 rfl
   simp at this
   exact ht this
theorem dd_head {n:Nat} (h:(Lib.decDigits n).head?=some 48):n=0:=by
 induction n using Nat.strongRecOn with
 | ind n ih =>
   by_cases h1:n < 10
   · rw [dd_small h1] at h
     simp only [List.head?_cons,Option.some.injEq] at h
     have:=congrArg UInt8.toNat h
     rw [digit_toNat h1] at this
     have e:(48:UInt8).toNat=48:=rfl
     omega
   · rw [dd_big h1,List.head?_append] at h
     have h2:(Lib.decDigits (n / 10)).head?=some 48:=by
      cases hd:(Lib.decDigits (n / 10)).head? with
      | none => exact absurd (List.head?_eq_none_iff.1 hd) (dd_ne _)
      | some x => rw [hd] at h; simpa using h
     have:=ih _ (by omega) h2
     omega
theorem dd_canon (n:Nat):Canon (Lib.decDigits n):=by
 refine ⟨dd_allD n,dd_ne n,fun h => ?_⟩
 rw [dd_head h,dd_small (by omega)]; rfl
def decT (n:Nat):ByteArray:=⟨(Lib.decDigits n).toArray⟩
theorem decT_list (n:Nat):(decT n).data.toList=Lib.decDigits n:=by simp [decT]
def pad9 (r:Nat):List UInt8:=List.replicate (9 - (Lib.decDigits r).length) 48 ++ Lib.decDigits r
def chunks (n:Nat):List (List UInt8) :=
 if n=0 then [] else (if n / 1000000000=0 then Lib.decDigits n else pad9 (n % 1000000000)) :: chunks (n / 1000000000)
termination_by n
decreasing_by omega
theorem chunks_zero:chunks 0=[]:=by rw [chunks,if_pos rfl]
theorem chunks_small {n:Nat} (h0:n ≠ 0) (h:n / 1000000000=0):chunks n=[Lib.decDigits n]:=by
 rw [chunks,if_neg h0,if_pos h,h,chunks_zero]
theorem chunks_big {n:Nat} (h:n / 1000000000 ≠ 0):chunks n=pad9 (n % 1000000000) :: chunks (n / 1000000000):=by
 rw [chunks,if_neg (by omega),if_neg h]
theorem decF_zeros (k:Nat) (l:List UInt8):decF 0 (List.replicate k 48 ++ l)=decF 0 l:=by
 induction k with
 | zero => rfl
 | succ k ih => rw [List.replicate_succ,List.cons_append,decF_cons]; exact ih
theorem dd_len_lt {n k:Nat} (h:n < 10 ^ (k + 1)):(Lib.decDigits n).length ≤ k + 1:=by
 induction k generalizing n with
 | zero => rw [dd_small (by omega)]; simp
 | succ k ih =>
   by_cases h1:n < 10
   · rw [dd_small h1]; simp
   · rw [dd_big h1,List.length_append]
     have:n / 10 < 10 ^ (k + 1):=by rw [Nat.pow_succ] at h; omega
     have:=ih this
     simp; omega
theorem pad9_len {r:Nat} (h:r < 1000000000):(pad9 r).length=9:=by
 have:=dd_len_lt (n:=r) (k:=8) (by omega)
 unfold pad9
 rw [List.length_append,List.length_replicate]; omega
theorem pad9_allD (r:Nat):AllD (pad9 r):=by
 unfold pad9
 refine AllD.append ?_ (dd_allD r)
 intro b hb
 rw [(List.mem_replicate.1 hb).2]; decide
theorem dd_split {n:Nat} (h:n / 1000000000 ≠ 0):Lib.decDigits n=Lib.decDigits (n / 1000000000) ++ pad9 (n % 1000000000):=by
 have hv:decF 0 (Lib.decDigits (n / 1000000000) ++ pad9 (n % 1000000000))=n:=by
  rw [decF_append,decF_dd,decF_split,pad9_len (Nat.mod_lt _ (by omega))]
  have:decF 0 (pad9 (n % 1000000000))=n % 1000000000:=by unfold pad9; rw [decF_zeros,decF_dd]
  rw [this]; omega
 have hc:Canon (Lib.decDigits (n / 1000000000) ++ pad9 (n % 1000000000)):=by
  refine ⟨(dd_allD _).append (pad9_allD _),by simp [dd_ne],fun hh => ?_⟩
  exfalso
  rw [List.head?_append] at hh
  cases hd:(Lib.decDigits (n / 1000000000)).head? with
  | none => exact dd_ne _ (List.head?_eq_none_iff.1 hd)
  | some x =>
    rw [hd] at hh
    simp at hh
    subst hh
    exact h (dd_head hd)
 have:=canon_dd hc
 rw [hv] at this
 exact this.symm
theorem chunks_join {n:Nat} (h:n ≠ 0):(chunks n).reverse.flatten=Lib.decDigits n:=by
 induction n using Nat.strongRecOn with
 | ind n ih =>
   by_cases h1:n / 1000000000=0
   · rw [chunks_small h h1]; simp
   · rw [chunks_big h1,List.reverse_cons,List.flatten_append,ih _ (by omega) h1,dd_split h1]; simp
theorem chunks_ne {n:Nat} (h:n ≠ 0):chunks n ≠ []:=by
 rw [chunks,if_neg h]; simp
theorem join_empty (xs:List (List UInt8)):Lib.join xs []=xs.flatten:=by
 cases xs with
 | nil => rfl
 | cons x r => rw [Lib.join_cons,Lib.joinTail]; simp
theorem repeat_zero (k:Nat):Lib.repeatL [48] k=List.replicate k 48:=by
 induction k with
 | zero => rfl
 | succ k ih => rw [Lib.repeatL,ih,List.replicate_succ]; rfl
theorem flatten_mem_len {xs:List (List UInt8)} {k:Nat} (h:∀ x ∈ xs,1 ≤ x.length):xs.length ≤ xs.flatten.length:=by
 induction xs with
 | nil => simp
 | cons x t ih =>
   have h1:=h x (by simp)
   have h2:=ih (fun y hy => h y (by simp [hy]))
   rw [List.length_cons,List.flatten_cons,List.length_append]; omega
theorem chunks_pos:∀ (n:Nat),∀ x ∈ chunks n,1 ≤ x.length:=by
 intro n
 induction n using Nat.strongRecOn with
 | ind n ih =>
   intro x hx
   by_cases h0:n=0
   · subst h0; rw [chunks_zero] at hx; cases hx
   · by_cases h1:n / 1000000000=0
     · rw [chunks_small h0 h1] at hx
       obtain rfl:=List.mem_singleton.1 hx
       exact List.length_pos_iff.2 (dd_ne n)
     · rw [chunks_big h1] at hx
       rcases List.mem_cons.1 hx with rfl | hx
       · rw [pad9_len (Nat.mod_lt _ (by omega))]; omega
       · exact ih _ (by omega) x hx
def GI (top v1 q g r:Nat):Prop:=r + g * v1=top ∧ q ≤ g ∧ g < 4294967296
theorem GI.start {us vs:List Nat} {n q:Nat} (hu:Dg us) (hv:Dg vs) (hlu:us.length=n + 3) (hlv:vs.length=n + 2) (hq:val us / val vs=q) (hV:0 < val vs) (hq9:q < 4294967296)
 (hv1:1 ≤ vs.getD (n + 1) 0) {top:Nat} (ht:us.getD (n + 2) 0 * 4294967296 + us.getD (n + 1) 0=top) :
 GI top (vs.getD (n + 1) 0) q (min (top / vs.getD (n + 1) 0) 4294967295) (top - min (top / vs.getD (n + 1) 0) 4294967295 * vs.getD (n + 1) 0):=by
 obtain ⟨h1,_⟩:=knuth_guess hu hv hlu hlv hq hV
 have hu0:us.getD n 0 < 4294967296:=by
  rw [List.getD_eq_getElem?_getD,List.getElem?_eq_getElem (by omega)]
  exact hu _ (List.getElem_mem ..)
 generalize us.getD n 0=u0 at *
 generalize us.getD (n + 1) 0=u1 at *
 generalize us.getD (n + 2) 0=u2 at *
 generalize vs.getD n 0=v0 at *
 generalize vs.getD (n + 1) 0=v1 at *
 have h2:q * v1 ≤ top:=by
  rcases Nat.lt_or_ge top (q * v1) with h | h
  · exfalso
    rw [Nat.mul_add,Nat.mul_left_comm q] at h1
    have:4294967296 * (top + 1) ≤ 4294967296 * (q * v1):=Nat.mul_le_mul_left _ h
    omega
  · exact h
 have h3:q ≤ top / v1:=(Nat.le_div_iff_mul_le hv1).2 h2
 have h4:min (top / v1) 4294967295 * v1 ≤ top:=Nat.le_trans (Nat.mul_le_mul_right v1 (Nat.min_le_left _ _)) (Nat.div_mul_le_self top v1)
 exact ⟨by omega,by omega,by omega⟩
theorem GI.step {us vs:List Nat} {n q g r:Nat} (hu:Dg us) (hv:Dg vs) (hlu:us.length=n + 3) (hlv:vs.length=n + 2) (hq:val us / val vs=q) (hV:0 < val vs)
 {top:Nat} (ht:us.getD (n + 2) 0 * 4294967296 + us.getD (n + 1) 0=top) (h:GI top (vs.getD (n + 1) 0) q g r) (hc:r * 4294967296 + us.getD n 0 < g * vs.getD n 0) :
 1 ≤ g ∧ GI top (vs.getD (n + 1) 0) q (g - 1) (r + vs.getD (n + 1) 0):=by
 obtain ⟨h1,_⟩:=knuth_guess hu hv hlu hlv hq hV
 obtain ⟨g1,g2,g3⟩:=h
 generalize us.getD n 0=u0 at *
 generalize us.getD (n + 1) 0=u1 at *
 generalize us.getD (n + 2) 0=u2 at *
 generalize vs.getD n 0=v0 at *
 generalize vs.getD (n + 1) 0=v1 at *
 have hlt:q < g:=by
  rcases Nat.lt_or_ge q g with h | h
  · exact h
  · exfalso
    have hqg:q=g:=by omega
    subst hqg
    rw [Nat.mul_add,Nat.mul_left_comm q] at h1
    omega
 obtain ⟨m,rfl⟩:∃ m,g=m + 1:=⟨g - 1,by omega⟩
 rw [Nat.add_mul] at g1
 refine ⟨by omega,?_,by omega,by omega⟩
 rw [Nat.add_sub_cancel]
 omega
theorem GI.stop {us vs:List Nat} {n q g r:Nat} (hu:Dg us) (hv:Dg vs) (hlu:us.length=n + 3) (hlv:vs.length=n + 2) (hq:val us / val vs=q) (hV:0 < val vs)
 (hv1:1 ≤ vs.getD (n + 1) 0) {top:Nat} (ht:us.getD (n + 2) 0 * 4294967296 + us.getD (n + 1) 0=top) (h:GI top (vs.getD (n + 1) 0) q g r) (hc:4294967296 ≤ r ∨ g * vs.getD n 0 ≤ r * 4294967296 + us.getD n 0) :
 g ≤ q + 1:=by
 obtain ⟨_,h2⟩:=knuth_guess hu hv hlu hlv hq hV
 obtain ⟨g1,g2,g3⟩:=h
 refine h2 g ?_ g3 hv1
 have hv0:vs.getD n 0 < 4294967296:=by
  rw [List.getD_eq_getElem?_getD,List.getElem?_eq_getElem (by omega)]
  exact hv _ (List.getElem_mem ..)
 generalize us.getD n 0=u0 at *
 generalize us.getD (n + 1) 0=u1 at *
 generalize us.getD (n + 2) 0=u2 at *
 generalize vs.getD n 0=v0 at *
 generalize vs.getD (n + 1) 0=v1 at *
 rw [Nat.mul_add,Nat.mul_left_comm g]
 have hgv:g * v0 ≤ r * 4294967296 + u0:=by
  rcases hc with h | h
  · have:g * v0 ≤ 4294967295 * 4294967295:=Nat.mul_le_mul (by omega) (by omega)
    have:4294967296 * 4294967296 ≤ r * 4294967296:=Nat.mul_le_mul_right _ h
    omega
  · exact h
 omega
theorem mulSub_step {g u:Nat} {us vs:List Nat} {c b v s lo hh bb y:Nat} (hv:vs.headD 0=v) (hs:c + g * v=s) (hlo:s % 4294967296=lo) (hhh:s / 4294967296=hh)
 (hbb:bor u lo b=bb) (hy:(u + 4294967296 - b - lo) % 4294967296=y) :
 mulSub g (u :: us) vs c b=(y :: (mulSub g us vs.tail hh bb).1,(mulSub g us vs.tail hh bb).2):=by
 rw [mulSub]
 simp only [hv,hs,hlo,hhh,hbb,hy]
theorem addN_step {u:Nat} {us vs:List Nat} {c v s lo hh:Nat} (hv:vs.headD 0=v) (hs:c + u + v=s) (hlo:s % 4294967296=lo) (hhh:s / 4294967296=hh) :
 addN (u :: us) vs c=(lo :: (addN us vs.tail hh).1,(addN us vs.tail hh).2):=by
 rw [addN]
 simp only [hv,hs,hlo,hhh]
theorem tail_drop {α:Type} (l:List α) (i:Nat):(l.drop i).tail=l.drop (i + 1):=by rw [List.tail_drop]
theorem headD_drop (l:List Nat) (i:Nat):(l.drop i).headD 0=l.getD i 0:=by
 rw [List.headD_eq_head?_getD,List.head?_drop,List.getD_eq_getElem?_getD]
theorem len_mulAddL (x:Nat):∀ (l:List Nat) (c:Nat),(mulAddL x l c).length=l.length + 1
 | [],_ => rfl
 | d :: t,c => by rw [mulAddL,List.length_cons,List.length_cons,len_mulAddL]
def DI (V X S j:Nat) (A R qs:List Nat):Prop :=
 A.length=j ∧ R.length=S ∧ Dg A ∧ Dg R ∧ Dg qs ∧ val R < V ∧ val A + 4294967296 ^ j * (val R + V * val qs)=X
theorem DI.start {us:List Nat} {V X S N p:Nat} (hu:Dg us) (hl:us.length=N + 1) (hS:1 ≤ S) (hSN:S ≤ N) (hX:val us=X) (hlt:X < p * 4294967296 ^ N) (hp:p * 4294967296 ^ (S - 1) ≤ V) :
 DI V X S (N + 1 - S) (us.take (N + 1 - S)) (us.drop (N + 1 - S)) []:=by
 have h1:(us.take (N + 1 - S)).length=N + 1 - S:=by rw [List.length_take]; omega
 have h2:=val_append (us.take (N + 1 - S)) (us.drop (N + 1 - S))
 rw [List.take_append_drop,h1,hX] at h2
 refine ⟨h1,by rw [List.length_drop]; omega,hu.take _,hu.drop _,Dg.nil,?_,by rw [h2]; simp [val]⟩
 have h3:p * 4294967296 ^ N ≤ 4294967296 ^ (N + 1 - S) * V:=by
  have e:N=(N + 1 - S) + (S - 1):=by omega
  calc p * 4294967296 ^ N=p * (4294967296 ^ (N + 1 - S) * 4294967296 ^ (S - 1)):=by rw [← Nat.pow_add,← e]
   _=4294967296 ^ (N + 1 - S) * (p * 4294967296 ^ (S - 1)):=Nat.mul_left_comm _ _ _
   _ ≤ _:=Nat.mul_le_mul_left _ hp
 have h4:4294967296 ^ (N + 1 - S) * val (us.drop (N + 1 - S)) < 4294967296 ^ (N + 1 - S) * V:=by omega
 exact Nat.lt_of_mul_lt_mul_left h4
theorem DI.open {V X S j:Nat} {A R qs:List Nat} (h:DI V X S (j + 1) A R qs):∃ A' a,A=A' ++ [a] ∧ A'.length=j ∧ a < 4294967296:=by
 obtain ⟨h1,_,h3,_⟩:=h
 have hne:A ≠ []:=by intro e; subst e; cases h1
 exact ⟨A.dropLast,A.getLast hne,(List.dropLast_concat_getLast hne).symm,by rw [List.length_dropLast]; omega,h3 _ (List.getLast_mem hne)⟩
theorem DI.win {V X S j a:Nat} {A R qs:List Nat} (h:DI V X S (j + 1) (A ++ [a]) R qs):(a :: R).length=S + 1 ∧ Dg (a :: R) ∧ val (a :: R) / V < 4294967296:=by
 obtain ⟨h1,h2,h3,h4,h5,h6,h7⟩:=h
 have ha:=h3 a (by simp)
 refine ⟨by rw [List.length_cons,h2],Dg.cons ha h4,?_⟩
 apply Nat.div_lt_of_lt_mul
 rw [val]
 have:4294967296 * (val R + 1) ≤ 4294967296 * V:=Nat.mul_le_mul_left _ h6
 rw [Nat.mul_comm V]
 omega
theorem DI.step {V X S j a q:Nat} {A R qs os:List Nat} (h:DI V X S (j + 1) (A ++ [a]) R qs) (hV:0 < V) (hVS:V ≤ 4294967296 ^ S) (hq:q=val (a :: R) / V) (hol:os.length=S + 1) (hod:Dg os) (hov:val os=val (a :: R) % V) :
 DI V X S j A (os.take S) (q :: qs):=by
 have hq9:=h.win.2.2
 obtain ⟨h1,h2,h3,h4,h5,h6,h7⟩:=h
 have hAl:A.length=j:=by rw [List.length_append] at h1; simpa using h1
 have e1:=val_append (os.take S) (os.drop S)
 have hSl:(os.take S).length=S:=by rw [List.length_take]; omega
 rw [List.take_append_drop,hSl] at e1
 have hm:=Nat.mod_lt (val (a :: R)) hV
 have hz:val (os.drop S)=0:=by
  rcases Nat.eq_zero_or_pos (val (os.drop S)) with h | h
  · exact h
  · have:=Nat.mul_le_mul_left (4294967296 ^ S) h
    omega
 rw [hz,Nat.mul_zero,Nat.add_zero] at e1
 have e2:val (os.take S)=val (a :: R) % V:=by omega
 refine ⟨hAl,hSl,fun x hx => h3 x (by simp [hx]),hod.take _,Dg.cons (by omega) h5,by omega,?_⟩
 have e3:=Nat.div_add_mod (val (a :: R)) V
 have e4:val [a]=a:=by simp [val]
 have e6:val (a :: R)=a + 4294967296 * val R:=rfl
 have e7:val (q :: qs)=q + 4294967296 * val qs:=rfl
 rw [e2,e7,hq]
 rw [val_append,hAl,e4] at h7
 rw [← h7,Nat.pow_succ]
 generalize val (a :: R) / V=Q at *
 generalize val (a :: R) % V=M at *
 rw [e6] at e3
 have e5:M + V * (Q + 4294967296 * val qs)=a + 4294967296 * (val R + V * val qs):=by
  rw [Nat.mul_add V,Nat.mul_add 4294967296,Nat.mul_left_comm V 4294967296]
  omega
 rw [e5,Nat.mul_add (4294967296 ^ j) a,Nat.mul_assoc (4294967296 ^ j) 4294967296]
 omega
theorem DI.stop {V X S:Nat} {A R qs:List Nat} (h:DI V X S 0 A R qs):val qs=X / V ∧ val R=X % V:=by
 obtain ⟨h1,h2,h3,h4,h5,h6,h7⟩:=h
 have hA:A=[]:=List.eq_nil_of_length_eq_zero h1
 subst hA
 simp only [val,Nat.pow_zero,Nat.one_mul,Nat.zero_add] at h7
 have e:=Nat.div_mod_unique (a:=X) (b:=V) (c:=val R) (d:=val qs) (by omega)
 have:=e.2 ⟨h7,h6⟩
 exact ⟨this.1.symm,this.2.symm⟩
theorem shift_facts {M p top n:Nat} {k:Nat} (hk:k ≤ 31) (hp:p=2 ^ k) (hl:(dig M).length=n + 2) (ht:(dig M).getD (n + 1) 0=top) (h1:2147483648 ≤ top * p) (h2:top * p < 4294967296) :
 (dig (M * p)).length=n + 2 ∧ M * p < 4294967296 ^ (n + 2) ∧ p * 4294967296 ^ (n + 1) ≤ M * p ∧ 1 ≤ (dig (M * p)).getD (n + 1) 0:=by
 have hp31:p ≤ 2147483648:=by rw [hp]; exact Nat.pow_le_pow_right (show 0 < 2 by omega) hk
 obtain ⟨P,hP⟩:∃ P,p * P=4294967296:=⟨2 ^ (32 - k),by rw [hp,← Nat.pow_add,show k + (32 - k)=32 by omega]⟩
 have hd:=val_top2 hl
 have hlow:=val_lt ((dig_dg M).take n)
 rw [List.length_take,hl,show min n (n + 2)=n by omega] at hlow
 have hv0:(dig M).getD n 0 < 4294967296:=by
  rw [List.getD_eq_getElem?_getD,List.getElem?_eq_getElem (by omega)]
  exact dig_dg M _ (List.getElem_mem ..)
 rw [val_dig,ht] at hd
 generalize (dig M).getD n 0=v0 at *
 generalize val ((dig M).take n)=low at *
 have hB:0 < 4294967296 ^ n:=Nat.pow_pos (by omega)
 have hsucc:(4294967296:Nat) ^ (n + 1)=4294967296 ^ n * 4294967296:=Nat.pow_succ ..
 have hsucc2:(4294967296:Nat) ^ (n + 2)=4294967296 ^ n * 4294967296 * 4294967296:=by rw [Nat.pow_succ,Nat.pow_succ]
 generalize 4294967296 ^ n=B at *
 have hM:top * (B * 4294967296) ≤ M ∧ M < (top + 1) * (B * 4294967296):=by
  have e1:B * (v0 + 4294967296 * top)=B * v0 + top * (B * 4294967296):=by
   rw [Nat.mul_add,Nat.mul_comm 4294967296 top,Nat.mul_left_comm B top]
  have e2:B * v0 + B ≤ B * 4294967296:=by
   have:=Nat.mul_le_mul_left B (show v0 + 1 ≤ 4294967296 by omega)
   rw [Nat.mul_add] at this; omega
  rw [Nat.add_mul]
  omega
 have htp:(top + 1) * p ≤ 4294967296:=by
  have:top < P:=by
   apply Nat.lt_of_mul_lt_mul_left (a:=p)
   rw [hP,Nat.mul_comm]; exact h2
  have:=Nat.mul_le_mul_left p (show top + 1 ≤ P from this)
  rw [hP,Nat.mul_comm] at this
  exact this
 have hp0:0 < p:=by
  rcases Nat.eq_zero_or_pos p with h | h
  · rw [h] at h1; omega
  · exact h
 have hup:M * p < B * 4294967296 * 4294967296:=by
  calc M * p < (top + 1) * (B * 4294967296) * p:=Nat.mul_lt_mul_of_pos_right hM.2 hp0
   _=(B * 4294967296) * ((top + 1) * p):=by rw [Nat.mul_comm (top + 1),Nat.mul_assoc]
   _ ≤ _:=Nat.mul_le_mul_left _ htp
 have hlo2:2147483648 * (B * 4294967296) ≤ M * p:=by
  calc 2147483648 * (B * 4294967296) ≤ (top * p) * (B * 4294967296):=Nat.mul_le_mul_right _ h1
   _=top * (B * 4294967296) * p:=by rw [Nat.mul_assoc,Nat.mul_comm p,← Nat.mul_assoc]
   _ ≤ _:=Nat.mul_le_mul_right _ hM.1
 have hlen:(dig (M * p)).length=n + 2:=by
  have h1:=dig_len_lt (n:=M * p) (k:=n + 2) (by rw [hsucc2]; exact hup)
  have h2:=lt_dig_len (M * p)
  have h3:n + 1 < (dig (M * p)).length:=by
   rcases Nat.lt_or_ge (n + 1) (dig (M * p)).length with h | h
   · exact h
   · exfalso
     have h4:(4294967296:Nat) ^ (dig (M * p)).length ≤ 4294967296 ^ (n + 1):=Nat.pow_le_pow_right (by omega) h
     rw [hsucc] at h4
     omega
  omega
 refine ⟨hlen,by rw [hsucc2]; exact hup,?_,?_⟩
 · rw [hsucc]
   exact Nat.le_trans (Nat.mul_le_mul_right _ hp31) hlo2
 · have hne:dig (M * p) ≠ []:=by intro e; rw [e] at hlen; cases hlen
   have hs:=(List.dropLast_concat_getLast hne).symm
   have h0:=dig_last hs
   have hl1:(dig (M * p)).dropLast.length=n + 1:=by rw [List.length_dropLast,hlen]; rfl
   have:(dig (M * p)).getD (n + 1) 0=(dig (M * p)).getLast hne:=by
    rw [List.getD_eq_getElem?_getD,List.getLast_eq_getElem]
    rw [List.getElem?_eq_getElem (by omega)]
    simp [hlen]
   rw [this]
   omega
def unsh (p P:Nat):List Nat → List Nat
 | [] => []
 | a :: t => (a / p + (t.headD 0 % p) * P) :: unsh p P t
theorem unsh_len (p P:Nat):∀ l:List Nat,(unsh p P l).length=l.length
 | [] => rfl
 | a :: t => by rw [unsh,List.length_cons,List.length_cons,unsh_len]
theorem unsh_cell {a h p P:Nat} (hpP:p * P=4294967296) (ha:a < 4294967296):a / p < P ∧ (h % p) * P + P ≤ 4294967296:=by
 have hp:0 < p:=by rcases Nat.eq_zero_or_pos p with h | h; · rw [h] at hpP; omega
                   · exact h
 constructor
 · apply Nat.div_lt_of_lt_mul; rw [hpP]; exact ha
 · have:=Nat.mul_le_mul_right P (show h % p + 1 ≤ p from Nat.mod_lt _ hp)
   rw [hpP,Nat.add_mul] at this; omega
theorem unsh_dg {p P:Nat} (hpP:p * P=4294967296):∀ l:List Nat,Dg l → Dg (unsh p P l)
 | [],_ => Dg.nil
 | a :: t,h => by
   rw [unsh]
   have:=unsh_cell (h:=t.headD 0) hpP h.head
   exact Dg.cons (by omega) (unsh_dg hpP t h.tail)
theorem unsh_val {p P:Nat} (hpP:p * P=4294967296):∀ l:List Nat,val (unsh p P l) * p + l.headD 0 % p=val l
 | [] => by simp [unsh,val]
 | a :: t => by
   have ih:=unsh_val hpP t
   have e:=Nat.div_add_mod a p
   rw [unsh,val,val,List.headD_cons,← ih]
   rw [Nat.add_mul,Nat.add_mul,Nat.mul_assoc (t.headD 0 % p),Nat.mul_comm P p,hpP,Nat.mul_assoc 4294967296,Nat.mul_comm (a / p) p,Nat.mul_comm (t.headD 0 % p) 4294967296,Nat.mul_add 4294967296]
   omega
theorem unsh_back {p P r:Nat} (hpP:p * P=4294967296):val (unsh p P (dig (r * p)))=r:=by
 have hp:0 < p:=by rcases Nat.eq_zero_or_pos p with h | h; · rw [h] at hpP; omega
                   · exact h
 have e:=unsh_val hpP (dig (r * p))
 rw [val_dig] at e
 have h0:(dig (r * p)).headD 0 % p=0:=by
  by_cases h:r * p=0
  · rw [h,dig_zero]; exact Nat.zero_mod p
  · rw [dig_pos h,List.headD_cons,← hpP,Nat.mod_mul_right_mod,Nat.mul_mod_left]
 rw [h0,Nat.add_zero] at e
 exact Nat.eq_of_mul_eq_mul_right hp e
end Go.Proofs.YtcggohkbmhdohaaGreatDoor
