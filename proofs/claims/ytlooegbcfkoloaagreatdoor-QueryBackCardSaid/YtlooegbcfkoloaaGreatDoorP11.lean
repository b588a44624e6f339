/- Part of the proof: see the last text. -/
import Derived.Test.YtlooegbcfkoloaaGreatDoorP10
set_option maxRecDepth 20000
set_option linter.unusedVariables false
set_option linter.unusedSimpArgs false
namespace Vm
open Go Go.RowKit
def M.opds:M→List O
 | .move x | .box _ x | .load _ _ x | .chk x | .un _ x | .conv _ x | .iface _ x | .faddr _ x | .field _ _ _ x | .ext x _ | .tas _ _ x | .lens x | .lenl x | .pan x=>[x]
 | .alloc _ _=>[]
 | .pick a b c=>[a,b,c]
 | .build _ ps=>ps.map fun p=>p.2.2
 | .bslice _ _ xs=>xs
 | .store _ x y | .arith _ _ _ _ x y | .iaddr _ x y | .idx x y | .app _ _ _ x y | .mm _ x y=>[x,y]
 | .fn _ a b=>a++b
 | .sls x lo hi | .sll _ x lo hi=>x :: (lo.toList++hi.toList)
 | .call _ f xs=>f :: xs
theorem ztH {e e':Nat→V} {xs:List O} (h:∀ y∈xs,y.ev e'=y.ev e):xs.map (O.ev e')=xs.map (O.ev e):=List.map_congr_left h
theorem zmC {slot:Nat} {m:M} {e e':Nat→V} {st:Nat→Ent} (h:∀ y∈m.opds,y.ev e'=y.ev e):semM slot m e' st=semM slot m e st:=by
 cases m<;>simp only [M.opds,List.mem_cons,List.mem_append,List.not_mem_nil,or_false,forall_eq_or_imp,forall_eq] at h<;>try (simp only [semM,h];done)
 case load ag n x=>cases ag<;>simp only [semM,h]
 case conv k x=>cases k<;>simp only [semM,h]
 case field o n ag x=>cases ag<;>simp only [semM,h]
 case build cs ps =>
  have:(ps.map fun p=>(p.1,p.2.1,res st (p.2.2.ev e')))=ps.map fun p=>(p.1,p.2.1,res st (p.2.2.ev e)):=List.map_congr_left fun p hp=>by rw [h _ (List.mem_map_of_mem hp)]
  have h2:(ps.map fun p=>(p.1,p.2.1,p.2.2.ev e'))=ps.map fun p=>(p.1,p.2.1,p.2.2.ev e):=List.map_congr_left fun p hp=>by rw [h _ (List.mem_map_of_mem hp)]
  simp only [semM,this,h2]
 case bslice el z xs =>
  have:(xs.map fun (x:O)=>norm1 (res st (x.ev e')))=xs.map fun (x:O)=>norm1 (res st (x.ev e)):=List.map_congr_left fun p hp=>by rw [h _ hp]
  simp only [semM,this]
 case fn f a b =>
  simp only [semM,ztH (fun y hy=>h y (.inl hy)),ztH (fun y hy=>h y (.inr hy))]
 case sls x lo hi =>
  have h1:lo.map (O.ev e')=lo.map (O.ev e):=by cases lo<;>simp;exact h.2 _ (.inl (by simp))
  have h2:hi.map (O.ev e')=hi.map (O.ev e):=by cases hi<;>simp;exact h.2 _ (.inr (by simp))
  simp only [semM,h.1,h1,h2]
 case sll z x lo hi =>
  have h1:lo.map (O.ev e')=lo.map (O.ev e):=by cases lo<;>simp;exact h.2 _ (.inl (by simp))
  have h2:hi.map (O.ev e')=hi.map (O.ev e):=by cases hi<;>simp;exact h.2 _ (.inr (by simp))
  simp only [semM,h.1,h1,h2]
def zjv (st st':Nat→Ent):Prop:=∀ id T z xs,st id=.row T z xs→∃ ys,st' id=.row T z (xs++ys)
theorem resK_le {st st':Nat→Ent} (h:zjv st st') (v:V):resK st v=.any∨resK st' v=resK st v:=by
 cases v<;>first | exact .inr rfl | skip
 rename_i id n
 simp only [resK]
 cases hs:st id with
 | gone=>exact .inl rfl
 | blk T cs=>exact .inl rfl
 | row T z xs =>
  obtain ⟨ys,h1⟩:=h _ _ _ _ hs
  rw [h1]
  by_cases hn:n≤xs.length
  ·right
   have:n≤(xs++ys).length:=by simp;omega
   simp only [if_pos hn,if_pos this]
   rw [List.take_append_of_le_length hn]
  ·left
   simp only [if_neg hn]
theorem res_le {st st':Nat→Ent} (h:zjv st st') (v:V):res st v=.any∨res st' v=res st v:=by
 cases v<;>first | exact .inr rfl | skip
 case row id n=>exact resK_le h (.row id n)
 case ta cs =>
  simp only [res]
  by_cases hd:(cs.map (resK st)).all V.data=true
  ·right
   have e:cs.map (resK st')=cs.map (resK st):=List.map_congr_left fun c hc=>by
    rcases resK_le h c with h1 | h1
    ·rw [List.all_eq_true] at hd
     have:=hd _ (List.mem_map_of_mem hc)
     rw [h1] at this
     cases this
    ·exact h1
   rw [e]
  ·left;rw [if_neg hd]
def M.quiet:M→Bool
 | .load _ _ _ | .store _ _ _ | .app _ _ _ _ _ | .call _ _ _ | .pan _=>false
 | _=>true
theorem zqW {st st':Nat→Ent} {e:Nat→V} (h:zjv st st'):∀ (ps:List (Nat×Nat×O)) (cs r:List V),fillM cs (ps.map fun p=>(p.1,p.2.1,res st (p.2.2.ev e)))=some r→fillM cs (ps.map fun p=>(p.1,p.2.1,res st' (p.2.2.ev e)))=some r
 | [],cs,r,hs=>hs
 | (off,size,y) :: ps,cs,r,hs=>by
  simp only [List.map_cons,fillM] at hs ⊢
  rcases res_le h (y.ev e) with h1 | h1
  ·rw [h1] at hs
   rw [if_neg (by rintro ⟨_,_,h2,_⟩;cases h2)] at hs
   cases hs
  ·rw [h1]
   split at hs
   ·rename_i hc
    rw [if_pos hc]
    exact zqW h ps _ r hs
   ·cases hs
theorem ztB:norm1 .any=.any:=rfl
theorem zkI:norm0 .any=.any:=rfl
theorem zrv {slot:Nat} {m:M} {e:Nat→V} {st st':Nat→Ent} {r:V×Upds} (hq:m.quiet=true) (h:zjv st st') (hg:(st slot).isGone=true→(st' slot).isGone=true) (hs:semM slot m e st=some r):semM slot m e st'=some r:=by
 cases m<;>first | (cases hq;done) | (simp only [semM] at hs ⊢;exact hs;done) | skip
 case conv k x=>cases k<;>(simp only [semM] at hs ⊢;exact hs)
 case field o n ag x=>cases ag<;>(simp only [semM] at hs ⊢;exact hs)
 case alloc T cs =>
  simp only [semM] at hs ⊢
  split at hs
  ·rename_i h1;rw [if_pos (hg h1)];exact hs
  ·cases hs
 case box T x =>
  simp only [semM,zko] at hs ⊢
  split at hs
  ·rename_i h1;rw [if_pos ⟨hg h1.1,h1.2⟩];exact hs
  ·cases hs
 case build cs ps =>
  simp only [semM] at hs ⊢
  split at hs
  ·rename_i hlt
   rw [if_pos hlt]
   split at hs
   ·rename_i r' h1
    rw [zqW h _ _ _ h1]
    exact hs
   ·cases hs
  ·rename_i hlt
   rw [if_neg hlt]
   exact hs
 case bslice el z xs =>
  simp only [semM] at hs ⊢
  split at hs
  ·rename_i h1
   have h2:(xs.map fun (x:O)=>norm1 (res st' (x.ev e)))=xs.map fun (x:O)=>norm1 (res st (x.ev e)):=List.map_congr_left fun p hp=>by
    rcases res_le h (p.ev e) with h3 | h3
    ·have:=(h1.2.1 _ (List.mem_map_of_mem hp)).1
     rw [h3] at this
     cases this
    ·rw [h3]
   rw [h2,if_pos ⟨hg h1.1,h1.2⟩]
   exact hs
  ·cases hs
 case iface T x =>
  simp only [semM] at hs ⊢
  rcases res_le h (x.ev e) with h1 | h1
  ·rw [h1,if_neg (by rw [ztB];simp [V.data])] at hs
   cases hs
  ·rw [h1];exact hs
 case sll z x lo hi =>
  simp only [semM] at hs ⊢
  rcases res_le h (x.ev e) with h1 | h1
  ·rw [h1,zkI] at hs
   cases hs
  ·rw [h1];exact hs
 case iaddr z x i =>
  simp only [semM] at hs ⊢
  rcases res_le h (x.ev e) with h1 | h1
  ·rw [h1,zkI] at hs
   cases hs
  ·rw [h1];exact hs
 case lenl x =>
  simp only [semM] at hs ⊢
  rcases res_le h (x.ev e) with h1 | h1
  ·rw [h1,zkI] at hs
   cases hs
  ·rw [h1];exact hs
abbrev V.off (s:Nat) (v:V):Prop:=v.on (fun k=>k != s)=true
theorem zmL {st:Nat→Ent} {s:Nat} {n:Ent} {v:V} (h:v.off s):res (updE st s n) v=res st v:=by
 have key:∀ {u:V},onK (fun k=>k != s) u=true→resK (updE st s n) u=resK st u:=fun {u} hu=>by
  cases u<;>first | rfl | skip
  simp only [onK,bne_iff_ne,ne_eq] at hu
  simp only [resK,zau _ _ hu]
 cases v<;>first | rfl | skip
 case row id k=>exact key (u:=.row id k) h
 case ta cs =>
  have e:cs.map (resK (updE st s n))=cs.map (resK st):=List.map_congr_left fun c hc=>key (by
   simp only [V.off,V.on,List.all_eq_true] at h
   exact h c hc)
  simp only [res,e]
theorem zqa {slot s:Nat} {m:M} {e:Nat→V} {st:Nat→Ent} {n:Ent} (hst:∀ id T cs,st id=.blk T cs→∀ v∈cs,v.off s) (hs:slot≠s) (h:∀ y∈m.opds,(y.ev e).off s):semM slot m e (updE st s n)=semM slot m e st:=by
 have hp:∀ {y:O} {id off:Nat},y∈m.opds→y.ev e=.ptr id off→updE st s n id=st id:=fun {y id off} hy he=>by
  have:=h y hy
  rw [he] at this
  simp only [V.off,V.on,bne_iff_ne,ne_eq] at this
  exact zau _ _ this
 have hrow:∀ {y:O} {id k:Nat},y∈m.opds→y.ev e=.row id k→updE st s n id=st id:=fun {y id off} hy he=>by
  have:=h y hy
  rw [he] at this
  simp only [V.off,V.on,bne_iff_ne,ne_eq] at this
  exact zau _ _ this
 have hres:∀ y∈m.opds,res (updE st s n) (y.ev e)=res st (y.ev e):=fun y hy=>zmL (h y hy)
 have hsl:updE st s n slot=st slot:=zau _ _ hs
 cases m<;>try (simp only [semM];done)
 case conv k x=>cases k<;>rfl
 case field o n ag x=>cases ag<;>rfl
 case alloc T cs=>simp only [semM,hsl]
 case box T x=>simp only [semM,zko,hsl]
 case build cs ps =>
  have:(ps.map fun p=>(p.1,p.2.1,res (updE st s n) (p.2.2.ev e)))=ps.map fun p=>(p.1,p.2.1,res st (p.2.2.ev e)):=List.map_congr_left fun p hp=>by rw [hres _ (List.mem_map_of_mem hp)]
  simp only [semM,this]
 case bslice el z xs =>
  have:(xs.map fun (x:O)=>norm1 (res (updE st s n) (x.ev e)))=xs.map fun (x:O)=>norm1 (res st (x.ev e)):=List.map_congr_left fun p hp=>by rw [hres _ hp]
  simp only [semM,this,hsl]
 case load ag k x =>
  have h1:=fun (id off:Nat) (he:x.ev e=.ptr id off)=>hp (y:=x) (id:=id) (off:=off) (by simp [M.opds]) he
  cases ag
  ·simp only [semM]
   split
   ·rename_i id off he;rw [h1 _ _ he]
   ·rfl
   ·rfl
  ·simp only [semM]
   split
   ·rename_i id off he
    rw [h1 _ _ he]
    cases hi:st id with
    | blk T cs =>
     have:((cs.drop off).take k).map (res (updE st s n))=((cs.drop off).take k).map (res st):=List.map_congr_left fun v hv=>zmL (hst _ _ _ hi v (List.mem_of_mem_drop (List.mem_of_mem_take hv)))
     simp only [this]
    | _=>rfl
   ·rfl
   ·rfl
 case store k x y =>
  have h1:=fun (id off:Nat) (he:x.ev e=.ptr id off)=>hp (y:=x) (id:=id) (off:=off) (by simp [M.opds]) he
  simp only [semM]
  split
  ·rename_i id off he;rw [h1 _ _ he]
  ·rfl
 case iface T x=>simp only [semM,hres x (by simp [M.opds])]
 case sll z x lo hi=>simp only [semM,hres x (by simp [M.opds])]
 case iaddr z x i=>simp only [semM,hres x (by simp [M.opds])]
 case lenl x=>simp only [semM,hres x (by simp [M.opds])]
 case app el z b t x =>
  have h1:=fun (id off:Nat) (he:t.ev e=.row id off)=>hrow (y:=t) (id:=id) (k:=off) (by simp [M.opds]) he
  simp only [semM,hres x (by simp [M.opds]),hsl]
  split
  ·rename_i he;rw [h1 _ _ he]
  ·rfl
  ·rfl
end Vm
