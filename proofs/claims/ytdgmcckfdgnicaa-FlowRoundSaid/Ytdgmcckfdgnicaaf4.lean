/-
 Acts as arguments.
-/
import Derived.Test.Ytdgmcckfdgnicaaf1M
import Derived.Test.YtdgmcckfdgnicaaAwC
set_option linter.unusedVariables false
set_option linter.unusedSimpArgs false
set_option maxRecDepth 20000
namespace Go.Proofs.Ytdgmcckfdgnicaa
open Go Go.Aw Go.Proofs
theorem acOf {bnd:Nat} {cs:List Value} (h:Fits bnd [.i .i64,.i .i64,.i .i64,.i .i64,.s] cs):∃a:Ac,cs=a.c∧isI a.n∧isI a.who:=by
 cases h with|cons h1 h=>
 cases h with|cons h2 h=>
 cases h with|cons h3 h=>
 cases h with|cons h4 h=>
 cases h with|cons h5 h=>
 cases h
 obtain ⟨z1,rfl,_⟩:=h1
 obtain ⟨z2,rfl,w2⟩:=h2
 obtain ⟨z3,rfl,w3⟩:=h3
 obtain ⟨z4,rfl,_⟩:=h4
 obtain ⟨z5,rfl,_⟩:=h5
 exact ⟨⟨z1,z2,z3,z4,z5⟩,rfl,wf_i64 w3,wf_i64 w2⟩
theorem acsOf {bnd:Nat}:∀l:List (List Value),(∀ r∈l,Fits bnd [.i .i64,.i .i64,.i .i64,.i .i64,.s] r)→∃xs:List Ac,l=xs.map Ac.c∧∀x∈xs,isI x.n∧isI x.who:=by
 intro l
 induction l with
 |nil=>intro _;exact ⟨[],rfl,by simp⟩
 |cons r l ih=>
  intro h
  obtain ⟨x,e,w⟩:=acOf (h r (List.mem_cons_self ..))
  obtain ⟨xs,e2,w2⟩:=ih fun r hr=>h r (List.mem_cons_of_mem _ hr)
  exact ⟨x::xs,by rw [e,e2];rfl,fun y hy=>by rcases List.mem_cons.1 hy with rfl|hy;exact w;exact w2 y hy⟩
end Go.Proofs.Ytdgmcckfdgnicaa
