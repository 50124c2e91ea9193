/- make of slices; literals of rows -/
import Derived.Test.YtcggohkbmhdohaaGreatDoorLibB
import Derived.OwnWalk
namespace Go.Proofs.YtcggohkbmhdohaaGreatDoor
open Go.RowKit
theorem replicate_made (z:Value) (n:Nat) (hz:z.cells=#[z]):(madeCells z.cells (n * 1)).toList=List.replicate n z:=by
 rw [hz]
 apply List.ext_getElem
 · simp [madeCells]
 · intro i h1 h2
   simp [madeCells,Nat.mod_one]
theorem wp_make1 {P:Program} {rest:List Oper} {oa:Array Oper} {o:Oper} {a:Act} {Q:Exit → Act → World → Prop} {w:World} (hg:o.guard=none) {l c:Operand} {t e:TypeId} {z:Value} {bytes:Nat} {kl kc:IntKind} {L C:Int}
 (hop:o.op=Op.makeSlice t l c) (ei:EI P t e z 1 bytes) (hz:z.cells=#[z]) (hl:a.eval l=.int kl L) (hc:a.eval c=.int kc C) (n:Nat) (hL:L=(n:Int)) (hC:C=(n:Int)) (hn:n ≤ 17592186044416) (hby:bytes * n ≤ 281474976710656)
 (h:∀ w',w'.ownsRow w.heap.size e 1 (.slice (some ⟨w.heap.size,0,none⟩) n n) n (List.replicate n z) → Ext w w' → wpList P oa Q rest (a.put o.dst (.slice (some ⟨w.heap.size,0,none⟩) n n)) w'):wpList P oa Q (o :: rest) a w:=by
 obtain ⟨i,hi,hiz,his,hib⟩:=ei.info
 subst hib
 refine wpList_make_full w hg l c t hop w.heap.size e i z 1 ei.und hi hiz his kl kc L C n hl hc hL hC hby (by unfold maxLen; omega) (Nat.le_refl _) fun w' h1 h2 => h w' ?_ ?_
 · rw [replicate_made z n hz] at h1; exact h1
 · exact ⟨h2.os,h2.tape,h2.output,h2.size,fun k hk => h2.block k hk (by simp)⟩
theorem own_cast {w:World} {B:Nat} {e:TypeId} {sz:Nat} {v:Value} {n n':Nat} {xs ys:List Value} (h:w.ownsRow B e sz v n xs) (hx:xs=ys) (hn:n=n'):w.ownsRow B e sz v n' ys:=by
 subst hx; subst hn; exact h
end Go.Proofs.YtcggohkbmhdohaaGreatDoor
