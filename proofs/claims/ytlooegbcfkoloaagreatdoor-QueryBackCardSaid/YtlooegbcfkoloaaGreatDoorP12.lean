/- Part of the proof: see the last text. -/
import Derived.Test.YtlooegbcfkoloaaGreatDoorP11
set_option maxRecDepth 20000
set_option linter.unusedVariables false
set_option linter.unusedSimpArgs false
namespace Vm
open Go Go.RowKit
def M.writes:M→Bool | .store _ _ _=>true | .call b _ _=>!b | _=>false
theorem semM_upd {slot:Nat} {m:M} {e:Nat→V} {st:Nat→Ent} {v:V} {U:Upds} (hs:semM slot m e st=some (v,U)) :
  U=[]∨(∃ n,U=[(slot,n)]∧st slot=.gone)∨(∃ id T cs cs',U=[(id,.blk T cs')]∧st id=.blk T cs∧m.writes=true)∨∃ id T z xs ys,U=[(id,.row T z (xs++ys))]∧st id=.row T z xs∧m.quiet=false:=by
 cases m
 case load ag n x =>
  cases ag<;>simp only [semM] at hs<;>(repeat' split at hs)<;>first | (cases hs;done) | exact .inl (one1_some hs).2 | (cases hs;exact .inl rfl)
 case conv k x=>cases k<;>simp only [semM] at hs<;>(repeat' split at hs)<;>first | (cases hs;done) | (cases hs;exact .inl rfl)
 case field o n ag x=>cases ag<;>simp only [semM] at hs<;>(repeat' split at hs)<;>first | (cases hs;done) | exact .inl (one1_some hs).2 | (cases hs;exact .inl rfl)
 case alloc T cs =>
  simp only [semM] at hs
  split at hs
  ·rename_i h;cases hs;exact .inr (.inl ⟨_,rfl,isGone_spec h⟩)
  ·cases hs
 case box T x =>
  simp only [semM,zko] at hs
  split at hs
  ·rename_i h;cases hs;exact .inr (.inl ⟨_,rfl,isGone_spec h.1⟩)
  ·cases hs
 case bslice el z xs =>
  simp only [semM] at hs
  split at hs
  ·rename_i h;cases hs;exact .inr (.inl ⟨_,rfl,isGone_spec h.1⟩)
  ·cases hs
 case store n a x =>
  simp only [semM] at hs
  split at hs
  ·split at hs
   ·rename_i h
    split at hs
    ·cases hs;exact .inr (.inr (.inl ⟨_,_,_,_,rfl,h,rfl⟩))
    ·cases hs
   ·cases hs
  ·cases hs
 case app el z b s x =>
  simp only [semM] at hs
  split at hs
  ·split at hs
   ·rename_i h
    split at hs
    ·cases hs;exact .inr (.inr (.inr ⟨_,_,_,_,_,rfl,h,rfl⟩))
    ·cases hs
   ·cases hs
  ·split at hs
   ·rename_i h;cases hs;exact .inr (.inl ⟨_,rfl,isGone_spec h.1⟩)
   ·cases hs
  ·cases hs
 all_goals (simp only [semM] at hs;(repeat' split at hs)<;>first | (cases hs;done) | exact .inl (one1_some hs).2 | (cases hs;exact .inl rfl))
theorem zr5 {P:Program} {N:Nat} {G:Nat→V} {op:Op} {m:M} (hm:compM P N G op=some m):∀ y∈m.opds,∃ o,compO N G o=some y:=by
 have hos:∀ {os:List Operand} {ys:List O},zfH N G os=some ys→∀ y∈ys,∃ o,compO N G o=some y:=by
  intro os
  induction os with
  | nil=>intro ys h y hy;cases h;simp at hy
  | cons o os ih =>
   intro ys h y hy
   simp only [zfH] at h
   split at h
   ·rename_i z s h1 h2
    cases h
    rcases List.mem_cons.1 hy with rfl | hy
    ·exact ⟨o,h1⟩
    ·exact ih h2 y hy
   ·cases h
 have hps:∀ {pl:List (Nat×Nat)} {ps:List (Nat×Operand)} {q:List (Nat×Nat×O)},zf5 N G pl ps=some q→∀ p∈q,∃ o,compO N G o=some p.2.2:=by
  intro pl ps
  induction ps with
  | nil=>intro q h p hp;cases h;simp at hp
  | cons o os ih =>
   intro q h p hp
   obtain ⟨i,o⟩:=o
   simp only [zf5] at h
   split at h
   ·rename_i off sz z s h0 h1 h2
    cases h
    rcases List.mem_cons.1 hp with rfl | hp
    ·exact ⟨o,h1⟩
    ·exact ih h2 p hp
   ·cases h
 have hop:∀ {o:Option Operand} {y:Option O},zji N G o=some y→∀ z∈y.toList,∃ o,compO N G o=some z:=by
  intro o y h z hz
  cases o with
  | none=>cases h;simp at hz
  | some o =>
   simp only [zji] at h
   split at h
   ·rename_i h1
    cases h
    simp at hz
    subst hz
    exact ⟨o,h1⟩
   ·cases h
 have h1:∀ {x:Operand} {k:O→M} ,(zbS N G x fun y=>some (k y))=some m→(∀ y,(k y).opds=[y])→∀ y∈m.opds,∃ o,compO N G o=some y:=by
  intro x k h hk y hy
  obtain ⟨z,hz,h⟩:=zab h
  cases h
  rw [hk] at hy
  simp at hy
  subst hy
  exact ⟨x,hz⟩
 have h2:∀ {x x':Operand} {k:O→O→M} ,(zbS N G x fun y=>zbS N G x' fun z=>some (k y z))=some m→(∀ y z,(k y z).opds=[y,z])→∀ y∈m.opds,∃ o,compO N G o=some y:=by
  intro x x' k h hk y hy
  obtain ⟨z,hz,h⟩:=zab h
  obtain ⟨z',hz',h⟩:=zab h
  cases h
  rw [hk] at hy
  simp at hy
  rcases hy with rfl | rfl
  ·exact ⟨x,hz⟩
  ·exact ⟨x',hz'⟩
 cases op
 case move y=>exact h1 hm fun _=>rfl
 case assign y=>exact h1 hm fun _=>rfl
 case pick p q r =>
  obtain ⟨p',hp,hm⟩:=zab hm
  obtain ⟨q',hq,hm⟩:=zab hm
  obtain ⟨r',hr,hm⟩:=zab hm
  cases hm
  intro y hy
  simp only [M.opds,List.mem_cons,List.not_mem_nil,or_false] at hy
  rcases hy with rfl | rfl | rfl
  ·exact ⟨_,hp⟩
  ·exact ⟨_,hq⟩
  ·exact ⟨_,hr⟩
 case alloc T =>
  simp only [compM] at hm
  split at hm
  ·cases hm;intro y hy;simp [M.opds] at hy
  ·cases hm
 case box T y=>exact h1 hm fun _=>rfl
 case build T ps =>
  simp only [compM] at hm
  split at hm
  ·split at hm
   ·rename_i h
    cases hm
    intro y hy
    simp only [M.opds,List.mem_map] at hy
    obtain ⟨p,hp,rfl⟩:=hy
    exact hps h p hp
   ·cases hm
  ·cases hm
 case buildSlice T len ps =>
  simp only [compM] at hm
  split at hm
  ·rename_i h
   split at hm
   ·cases hm;exact hos h
   ·cases hm
  ·cases hm
 case load T y =>
  simp only [compM] at hm
  split at hm
  ·exact h1 hm fun _=>rfl
  ·cases hm
 case store T y z =>
  simp only [compM] at hm
  split at hm
  ·exact h2 hm fun _ _=>rfl
  ·cases hm
 case nilCheck y=>exact h1 hm fun _=>rfl
 case binOp op T y z T'=>exact h2 hm fun _ _=>rfl
 case unOp op T y=>exact h1 hm fun _=>rfl
 case convert s d y =>
  simp only [compM] at hm
  split at hm
  ·exact h1 hm fun _=>rfl
  ·exact h1 hm fun _=>rfl
  ·cases hm
 case makeInterface T y =>
  simp only [compM] at hm
  split at hm
  ·exact h1 hm fun _=>rfl
  ·cases hm
 case makeFunc f first cap =>
  cases f with
  | func f' =>
   simp only [compM] at hm
   split at hm
   ·rename_i ha hb
    cases hm
    intro y hy
    simp only [M.opds,List.mem_append] at hy
    rcases hy with hy | hy
    ·exact hos ha y hy
    ·exact hos hb y hy
   ·cases hm
  | _=>simp only [compM] at hm;cases hm
 case slice T y lo hi mx =>
  cases mx with
  | some _=>simp only [compM] at hm;cases hm
  | none =>
   simp only [compM] at hm
   split at hm
   ·rename_i lo' hi' hlo hhi
    have key:∀ {k:O→M},(zbS N G y fun z=>some (k z))=some m→(∀ z,(k z).opds=z :: (lo'.toList++hi'.toList))→∀ z∈m.opds,∃ o,compO N G o=some z:=by
     intro k h hk z hz
     obtain ⟨y',hy,h⟩:=zab h
     cases h
     rw [hk] at hz
     rcases List.mem_cons.1 hz with rfl | hz
     ·exact ⟨_,hy⟩
     ·rcases List.mem_append.1 hz with hz | hz
      ·exact hop hlo z hz
      ·exact hop hhi z hz
    split at hm
    ·exact key hm fun _=>rfl
    ·split at hm
     ·exact key hm fun _=>rfl
     ·cases hm
   ·cases hm
 case fieldAddr s y f =>
  simp only [compM] at hm
  split at hm
  ·exact h1 hm fun _=>rfl
  ·cases hm
 case field s y f =>
  simp only [compM] at hm
  split at hm
  ·exact h1 hm fun _=>rfl
  ·cases hm
 case indexAddr T y i =>
  simp only [compM] at hm
  split at hm
  ·exact h2 hm fun _ _=>rfl
  ·cases hm
 case index T y i =>
  simp only [compM] at hm
  split at hm
  ·exact h2 hm fun _ _=>rfl
  ·cases hm
 case typeAssert y S T ok =>
  simp only [compM] at hm
  split at hm<;>first | (cases hm;done) | skip
  cases ok with
  | true =>
   dsimp only at hm
   split at hm<;>first | (cases hm;done) | skip
   exact h1 hm fun _=>rfl
  | false=>exact h1 hm fun _=>rfl
 case extract y i=>exact h1 hm fun _=>rfl
 case panic y=>exact h1 hm fun _=>rfl
 case call cl =>
  simp only [compM] at hm
  split at hm
  ·split at hm
   ·rename_i hx
    obtain ⟨y',hy,hm⟩:=zab hm
    cases hm
    intro z hz
    simp only [M.opds,List.mem_cons] at hz
    rcases hz with rfl | hz
    ·exact ⟨_,hy⟩
    ·exact hos hx z hz
   ·cases hm
  ·split at hm
   ·split at hm
    ·exact h1 hm fun _=>rfl
    ·split at hm
     ·exact h1 hm fun _=>rfl
     ·cases hm
   ·split at hm
    ·split at hm
     ·exact h2 hm fun _ _=>rfl
     ·cases hm
    ·cases hm
   ·exact h2 hm fun _ _=>rfl
   ·exact h2 hm fun _ _=>rfl
   ·cases hm
  ·cases hm
 all_goals (simp only [compM] at hm;cases hm)
end Vm
