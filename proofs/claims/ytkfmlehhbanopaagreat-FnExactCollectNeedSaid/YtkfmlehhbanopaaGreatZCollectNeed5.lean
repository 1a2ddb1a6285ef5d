/- Lemmas of the proof of CollectNeed, part 5. No condition. -/
import Derived.Test.YtkfmlehhbanopaaGreatZCollectNeed4
namespace Go.Proofs.YtkfmlehhbanopaaGreat
set_option linter.unusedVariables false
set_option linter.unusedSimpArgs false
section
open Go.RowKit
/-- The cell a is marked. -/
def Mk (l:List Bool) (a:Int):Prop:=0≤a∧l[a.toNat]? = some true
/-- What the cell a reaches at once. -/
def af4 (m:aN) (a:Int):List Int:=match m.heap[a.toNat]? with|some t=>t.closure.env|none=>[]
def InN (n:Nat) (xs:List Int):Prop:=∀a∈xs,0≤a∧a < (n:Int)
structure MC (m:aN) (R:List Int) (l l':List Bool):Prop where
 len:l'.length=l.length
 mono :∀a,Mk l a→Mk l' a
 root :∀a∈R,Mk l' a
 aBw:(∀a,Mk l a→∀e∈af4 m a,Mk l e)→∀a,Mk l' a→∀e∈af4 m a,Mk l' e
 least :∀P:Int→Prop,(∀a,P a→∀e∈af4 m a,P e)→(∀a,Mk l a→P a)→(∀a∈R,P a)→∀a,Mk l' a→P a
theorem MC.refl (m:aN) (l:List Bool):MC m [] l l:=⟨rfl,fun _ h=>h,fun _ h=>(by cases h),fun h=>h,fun P _ h _=>h⟩
theorem MC.trans {m:aN} {R1 R2:List Int} {l l1 l2:List Bool} (h1:MC m R1 l l1) (h2:MC m R2 l1 l2):MC m (R1 ++ R2) l l2:=
  ⟨h2.len.trans h1.len, fun a h => h2.mono a (h1.mono a h), fun a h => (List.mem_append.1 h).elim (fun h => h2.mono a (h1.root a h)) (fun h => h2.root a h),
   fun h=>h2.aBw (h1.aBw h),fun P hP h0 hR=>h2.least P hP (h1.least P hP h0 (fun a ha=>hR a (List.mem_append_left _ ha))) (fun a ha=>hR a (List.mem_append_right _ ha))⟩
theorem MC.uniq {m:aN} {R:List Int} {l l1 l2:List Bool} (h0 :∀a,¬ Mk l a) (h1:MC m R l l1) (h2:MC m R l l2):l1=l2:=by
 have hc :∀a,Mk l a→∀e∈af4 m a,Mk l e:=fun a h=>absurd h (h0 a)
 have e12 :∀a,Mk l1 a→Mk l2 a:=h1.least (Mk l2) (h2.aBw hc) (fun a h=>absurd h (h0 a)) h2.root
 have e21 :∀a,Mk l2 a→Mk l1 a:=h2.least (Mk l1) (h1.aBw hc) (fun a h=>absurd h (h0 a)) h1.root
 have hl:l1.length=l2.length:=h1.len.trans h2.len.symm
 apply List.ext_getElem hl
 intro k hk hk2
 have a1:l1[k]? = some l1[k]:=List.getElem?_eq_getElem hk
 have a2:l2[k]? = some l2[k]:=List.getElem?_eq_getElem hk2
 cases b1:l1[k] with
 |true=>
  have:=(e12 (k:Int) ⟨by omega,by rw [Int.toNat_natCast,a1,b1]⟩).2
  rw [Int.toNat_natCast,a2] at this
  exact (Option.some.inj this).symm
 |false=>
  cases b2:l2[k] with
  |false=>rfl
  |true=>
   have:=(e21 (k:Int) ⟨by omega,by rw [Int.toNat_natCast,a2,b2]⟩).2
   rw [Int.toNat_natCast,a1,b1] at this
   cases this
theorem Us {l:List Bool} {k:Nat} (hk:k < l.length) (b:Int):Mk (l.set k true) b↔b=(k:Int) ∨ Mk l b:=by
 unfold Mk
 constructor
 ·rintro ⟨h0,h⟩
  rw [List.getElem?_set] at h
  by_cases e:k=b.toNat
  ·exact .inl (by omega)
  ·rw [if_neg e] at h; exact .inr ⟨h0,h⟩
 ·rintro (h|⟨h0,h⟩)
  ·subst h
   exact ⟨by omega,by rw [Int.toNat_natCast,List.getElem?_set_self hk]⟩
  ·refine ⟨h0,?_⟩
   rw [List.getElem?_set]
   split
   ·first|rfl|(rw [if_pos hk])
   ·exact h
theorem ato {n:Nat} {a:Int} (h:0≤a∧a < (n:Int)) :∃k:Nat,a=(k:Int)∧k < n:=⟨a.toNat,by omega,by omega⟩
/-- How many addresses the cells not yet marked hold. -/
def unE:List Bool→List bD→Nat
 |b :: bs,t :: ts=>(bif b then 0 else t.closure.env.length)+unE bs ts
 |_,_=>0
theorem awG :∀(l:List Bool) (hp:List bD) (k:Nat) (t:bD),l[k]? = some false→hp[k]? = some t→unE (l.set k true) hp+t.closure.env.length=unE l hp
 |[],_,k,_,h,_=>by simp at h
 |b :: bs,[],k,_,_,h=>by simp at h
 |b :: bs,t' :: ts,0,t,h,h'=>by
  simp at h h'
  subst h; subst h'
  simp [unE]; omega
 |b :: bs,t' :: ts,k+1,t,h,h'=>by
  have:=awG bs ts k t (by simpa using h) (by simpa using h')
  simp only [List.set_cons_succ,unE]
  omega
theorem aBx :∀(l:List Bool) (hp:List bD),unE l hp≤(hp.map fun t=>t.closure.env.length).sum
 |[],hp=>by unfold unE; exact Nat.zero_le _
 |b :: bs,[]=>by unfold unE; exact Nat.zero_le _
 |b :: bs,t :: ts=>by
  have:=aBx bs ts
  rw [unE,List.map_cons,List.sum_cons]
  cases b <;> simp <;> omega
/-- All addresses are in range. -/
structure VA (m:aN):Prop where
 small:m.heap.length≤2000
 hp :∀t∈m.heap,InN m.heap.length t.closure.env∧t.closure.env.length≤256
 ct:InN m.heap.length m.control.env∧m.control.env.length≤256
 st :∀f∈m.stack,(InN m.heap.length f.closure.env∧f.closure.env.length≤256)∧(f.kind=1 ∨ f.kind=2→0≤f.value∧f.value < (m.heap.length:Int))
theorem VA.aGU {m:aN} (G:VA m):asQ m≤512000:=by
 have key :∀ts:List bD,(∀t∈ts,t.closure.env.length≤256)→(ts.map fun t=>t.closure.env.length).sum≤256 * ts.length:=by
  intro ts
  induction ts with
  |nil=>intro _; simp
  |cons t ts ih=>
   intro h
   have h1:=h t (by simp)
   have h2:=ih (fun y hy=>h y (by simp [hy]))
   rw [List.map_cons,List.sum_cons,List.length_cons]
   omega
 have h1:=key m.heap (fun t ht=>(G.hp t ht).2)
 have h2:=G.small
 unfold asQ
 omega
theorem anG {m:aN} {k:Nat} {t:bD} (h:m.heap[k]? = some t):af4 m (k:Int)=t.closure.env:=by unfold af4; rw [Int.toNat_natCast,h]
theorem aBy {m:aN} (G:VA m) :∀(g:Nat) (l:List Bool) (todo:List Int),l.length=m.heap.length→InN m.heap.length todo→todo.length+unE l m.heap < g→todo.length+unE l m.heap≤1000000→
  ∃l',lW m nT g l todo=some l'∧l'.length=l.length∧(∀a,Mk l a→Mk l' a)∧(∀a∈todo,Mk l' a)∧((∀a,Mk l a→∀e∈af4 m a,Mk l e ∨ e∈todo)→∀a,Mk l' a→∀e∈af4 m a,Mk l' e)∧
   ∀P:Int→Prop,(∀a,P a→∀e∈af4 m a,P e)→(∀a,Mk l a→P a)→(∀a∈todo,P a)→∀a,Mk l' a→P a
 |0,l,todo,_,_,h,_=>by omega
 |g+1,l,todo,hl,hr,hg,hb=>by
  have e:lW m nT (g+1) l todo=zl m (lW m nT g) nT l todo:=rfl
  rw [e]
  unfold zl
  rcases List.eq_nil_or_concat todo with rfl|⟨ts,a,htd⟩
  ·refine ⟨l,rfl,rfl,fun _ h=>h,fun _ h=>(by cases h),fun h a ha e he=>?_,fun P _ h _=>h⟩
   rcases h a ha e he with h|h
   ·exact h
   ·cases h
  ·first|(rw [List.concat_eq_append] at htd; subst htd)|subst htd
   simp only [List.length_append,List.length_singleton] at hg hb ⊢
   obtain ⟨k,rfl,hk⟩:=ato (hr a (by simp))
   have hkl:k < l.length:=by omega
   have hts:InN m.heap.length ts:=fun b hb=>hr b (by simp [hb])
   have hsub:((ts.length+1:Nat):Int) - 1=(ts.length:Int):=by omega
   have hpos:decide (((ts.length+1:Nat):Int) > 0)=true:=decide_eq_true (by omega)
   have hlast:fC (ts ++ [(k:Int)]) (ts.length:Int)=some (k:Int):=by
    rw [gG (x:=(k:Int)) (by simp)]
   have htake:(ts ++ [(k:Int)]).take ((ts.length:Int)).toNat=ts:=by rw [Int.toNat_natCast,List.take_left]
   rw [hpos,cond_true,hsub,yA (by omega),Option.bind_some,hlast,Option.bind_some,Option.bind_some,kZ (by constructor <;> omega),Option.bind_some,htake,jY hkl,Option.bind_some,Option.bind_some]
   have hx:l[k]? = some l[k]:=List.getElem?_eq_getElem hkl
   cases hm:l[k] with
   |true=>
    rw [cond_true]
    have hmk:Mk l (k:Int):=⟨by omega,by rw [Int.toNat_natCast,hx,hm]⟩
    obtain ⟨l',h1,h2,h3,h4,h5,h6⟩:=aBy G g l ts hl hts (by omega) (by omega)
    refine ⟨l',h1,h2,h3,fun b hb=>?_,fun hc=>h5 (fun b hb e he=>?_),fun P hP h0 ht=>h6 P hP h0 (fun b hb=>ht b (by simp [hb]))⟩
    ·rcases List.mem_append.1 hb with hb|hb
     ·exact h4 b hb
     ·simp at hb; subst hb; exact h3 _ hmk
    ·rcases hc b hb e he with h|h
     ·exact .inl h
     ·rcases List.mem_append.1 h with h|h
      ·exact .inr h
      ·simp at h; subst h; exact .inl hmk
   |false=>
    rw [cond_false]
    have ht:m.heap[k]? = some m.heap[k]:=List.getElem?_eq_getElem hk
    rw [gG ht,Option.bind_some]
    have hen:=anG ht
    have hun:=awG l m.heap k m.heap[k] (by rw [hx,hm]) ht
    rw [kZ (by omega),Option.bind_some]
    have hset:kX l (k:Int) true=l.set k true:=by unfold kX; simp
    rw [hset]
    obtain ⟨l',h1,h2,h3,h4,h5,h6⟩:=aBy G g (l.set k true) (ts ++ m.heap[k].closure.env) (by simpa using hl) (fun b hb=>by
     rcases List.mem_append.1 hb with hb|hb
     ·exact hts b hb
     ·exact (G.hp _ (List.getElem_mem hk)).1 b hb) (by rw [List.length_append]; omega) (by rw [List.length_append]; omega)
    have hak:Mk (l.set k true) (k:Int):=(Us hkl _).2 (.inl rfl)
    refine ⟨l',h1,by simpa using h2,fun b hb=>h3 b ((Us hkl b).2 (.inr hb)),fun b hb=>?_,fun hc=>h5 (fun b hb e he=>?_),fun P hP h0 ht'=>h6 P hP (fun b hb=>?_) (fun b hb=>?_)⟩
    ·rcases List.mem_append.1 hb with hb|hb
     ·exact h4 b (List.mem_append_left _ hb)
     ·simp at hb; subst hb; exact h3 _ hak
    ·rcases (Us hkl b).1 hb with rfl|hb
     ·rw [hen] at he; exact .inr (List.mem_append_right _ he)
     ·rcases hc b hb e he with h|h
      ·exact .inl ((Us hkl e).2 (.inr h))
      ·rcases List.mem_append.1 h with h|h
       ·exact .inr (List.mem_append_left _ h)
       ·simp at h; subst h; exact .inl hak
    ·rcases (Us hkl b).1 hb with rfl|hb
     ·exact ht' _ (by simp)
     ·exact h0 b hb
    ·rcases List.mem_append.1 hb with hb|hb
     ·exact ht' b (by simp [hb])
     ·exact hP (k:Int) (ht' _ (by simp)) b (by rw [hen]; exact hb)
theorem agA {m:aN} (G:VA m) (l:List Bool) (env:List Int) (hl:l.length=m.heap.length) (hr:InN m.heap.length env) (hs:env.length≤256) :∃l',lu m l env=some l'∧MC m env l l':=by
 have hE:=G.aGU
 have hu:=aBx l m.heap
 have hu':unE l m.heap≤asQ m:=hu
 unfold lu og
 rw [kZ (by simp; omega),Option.bind_some,Option.bind_some,List.nil_append]
 obtain ⟨l',h1,h2,h3,h4,h5,h6⟩:=aBy G ((asQ m+env.length)+2) l env hl hr (by omega) (by omega)
 exact ⟨l',h1,h2,h3,h4,fun hc=>h5 (fun a ha e he=>.inl (hc a ha e he)),h6⟩
def H6 (f:aO):List Int:=(bif f.kind==1||f.kind==2 then [f.value] else []) ++ f.closure.env
def Ut (m:aN):List Int:=m.control.env ++ m.stack.flatMap H6
theorem anH {m:aN} (G:VA m) :∃l',tN m=some l'∧MC m (Ut m) (List.replicate m.heap.length false) l':=by
 have key :∀(q k g:Nat) (l:List Bool),k+q=m.stack.length→q < g→l.length=m.heap.length→∃l',jl m jZ g l (k:Int)=some l'∧MC m ((m.stack.drop k).flatMap H6) l l':=by
  intro q
  induction q with
  |zero=>
   intro k g l hk hg hl
   obtain ⟨g,rfl⟩ :∃g',g=g'+1:=⟨g - 1,by omega⟩
   refine ⟨l,?_,?_⟩
   ·rw [show k=m.stack.length by omega]
    simp -implicitDefEqProofs only [jl,uG,LG,cond_false,jZ]
   ·rw [show k=m.stack.length by omega,List.drop_length]; exact MC.refl m l
  |succ q ih=>
   intro k g l hk hg hl
   obtain ⟨g,rfl⟩ :∃g',g=g'+1:=⟨g - 1,by omega⟩
   have hkl:k < m.stack.length:=by omega
   have hst:=G.st _ (List.getElem_mem hkl)
   have e:jl m jZ (g+1) l (k:Int)=uG m (jl m jZ g) jZ l (k:Int):=rfl
   rw [e]
   unfold uG
   rw [LD hkl,cond_true,jY hkl,Option.bind_some,List.drop_eq_getElem_cons hkl,List.flatMap_cons,show ((k:Int)+1)=((k+1:Nat):Int) by omega]
   have two:(m.stack[k].kind=1 ∨ m.stack[k].kind=2)→∃l',((lu m l [m.stack[k].value]).bind fun y=>(lu m y m.stack[k].closure.env).bind fun y2=>jl m jZ g y2 ((k+1:Nat):Int))=some l'∧MC m (H6 m.stack[k] ++ (m.stack.drop (k+1)).flatMap H6) l l':=fun hk12=>by
    obtain ⟨l1,e1,s1⟩:=agA G l [m.stack[k].value] hl (fun a ha=>by simp at ha; subst ha; exact hst.2 hk12) (by simp)
    obtain ⟨l2,e2,s2⟩:=agA G l1 m.stack[k].closure.env (s1.len.trans hl) hst.1.1 hst.1.2
    obtain ⟨l3,e3,s3⟩:=ih (k+1) g l2 (by omega) (by omega) (s2.len.trans (s1.len.trans hl))
    refine ⟨l3,by rw [e1,Option.bind_some,e2,Option.bind_some,e3],?_⟩
    have hrf:H6 m.stack[k] = [m.stack[k].value] ++ m.stack[k].closure.env:=by
     unfold H6
     rcases hk12 with h|h <;> simp [h]
    rw [hrf]
    exact (s1.trans s2).trans s3
   by_cases k1:m.stack[k].kind=1
   ·rw [show (m.stack[k].kind==1)=true by simp [k1],cond_true]
    exact two (.inl k1)
   rw [show (m.stack[k].kind==1)=false by simp [k1],cond_false]
   by_cases k2:m.stack[k].kind=2
   ·rw [show (m.stack[k].kind==2)=true by simp [k2],cond_true]
    exact two (.inr k2)
   rw [show (m.stack[k].kind==2)=false by simp [k2],cond_false]
   obtain ⟨l2,e2,s2⟩:=agA G l m.stack[k].closure.env hl hst.1.1 hst.1.2
   obtain ⟨l3,e3,s3⟩:=ih (k+1) g l2 (by omega) (by omega) (s2.len.trans hl)
   refine ⟨l3,by rw [e2,Option.bind_some,e3],?_⟩
   have hrf:H6 m.stack[k] = m.stack[k].closure.env:=by
    unfold H6
    rw [show (m.stack[k].kind==1)=false by simp [k1],show (m.stack[k].kind==2)=false by simp [k2]]; rfl
   rw [hrf]
   exact s2.trans s3
 have hs:=G.small
 unfold tN
 rw [kZ (by omega),Option.bind_some]
 obtain ⟨l1,e1,s1⟩:=agA G (List.replicate m.heap.length false) m.control.env (by simp) G.ct.1 G.ct.2
 obtain ⟨l2,e2,s2⟩:=key m.stack.length 0 (m.stack.length+1) l1 (by omega) (by omega) (by rw [s1.len]; simp)
 refine ⟨l2,by rw [e1,Option.bind_some]; exact e2,?_⟩
 rw [List.drop_zero] at s2
 exact s1.trans s2
theorem abw :∀(xs ys:List Int) (l:List Bool) (q:List Int),mkM (xs ++ ys) l q=(mkM xs l q).bind fun s=>mkM ys s.1 s.2
 |[],ys,l,q=>rfl
 |x :: xs,ys,l,q=>by
  show ((fC l x).bind fun b=>bif b then mkM (xs ++ ys) l q else (yB (q.length+1≤4294967296)).bind fun _=>mkM (xs ++ ys) (kX l x true) (q ++ [x]))=(((fC l x).bind fun b=>bif b then mkM xs l q else (yB (q.length+1≤4294967296)).bind fun _=>mkM xs (kX l x true) (q ++ [x]))).bind fun s=>mkM ys s.1 s.2
  cases fC l x with
  |none=>rfl
  |some b=>
   rw [Option.bind_some,Option.bind_some]
   cases b with
   |true=>exact abw xs ys l q
   |false=>
    rw [cond_false,cond_false]
    cases yB (q.length+1≤4294967296) with
    |none=>rfl
    |some u=>exact abw xs ys _ _
theorem stM_eq :∀(fs:List aO) (l:List Bool) (q:List Int),stM fs l q=mkM (fs.flatMap H6) l q
 |[],l,q=>rfl
 |f :: fs,l,q=>by
  rw [List.flatMap_cons,H6,List.append_assoc,abw,stM]
  have e:(bif f.kind==1||f.kind==2 then mkM [f.value] l q else some (l,q))=mkM (bif f.kind==1||f.kind==2 then [f.value] else []) l q:=by
   cases (f.kind==1||f.kind==2) <;> rfl
  rw [e]
  congr 1
  funext s
  rw [abw]
  congr 1
  funext s2
  exact stM_eq fs s2.1 s2.2
theorem awH :∀(l:List Bool) (k:Nat),l[k]? = some false→(l.set k true).count false+1=l.count false
 |[],k,h=>by simp at h
 |b :: bs,0,h=>by simp at h; subst h; simp
 |b :: bs,k+1,h=>by
  have:=awH bs k (by simpa using h)
  simp only [List.set_cons_succ,List.count_cons]
  omega
structure MkD (xs:List Int) (l:List Bool) (q:List Int) (l':List Bool) (q':List Int):Prop where
 len:l'.length=l.length
 mono :∀a,Mk l a→Mk l' a
 root :∀a∈xs,Mk l' a
 only :∀a,Mk l' a→Mk l a ∨ a∈xs
 sub :∀a∈q,a∈q'
 inq :∀a∈q',a∈q ∨ Mk l' a
 new :∀a,Mk l' a→Mk l a ∨ a∈q'
 cnt:q'.length+l'.count false=q.length+l.count false
theorem awI {n:Nat} :∀(xs:List Int) (l:List Bool) (q:List Int),l.length=n→InN n xs→q.length+l.count false≤4294967296→∃l' q',mkM xs l q=some (l',q')∧MkD xs l q l' q'
 |[],l,q,hl,hr,hb=>⟨l,q,rfl,rfl,fun _ h=>h,fun _ h=>(by cases h),fun _ h=>.inl h,fun _ h=>h,fun _ h=>.inl h,fun _ h=>.inl h,rfl⟩
 |x :: xs,l,q,hl,hr,hb=>by
  obtain ⟨k,rfl,hk⟩:=ato (hr x (by simp))
  have hkl:k < l.length:=by omega
  have hx:l[k]? = some l[k]:=List.getElem?_eq_getElem hkl
  have hxs:InN n xs:=fun a ha=>hr a (by simp [ha])
  have e:mkM ((k:Int) :: xs) l q=(fC l (k:Int)).bind fun b=>bif b then mkM xs l q else (yB (q.length+1≤4294967296)).bind fun _=>mkM xs (kX l (k:Int) true) (q ++ [(k:Int)]):=rfl
  rw [e,jY hkl,Option.bind_some]
  cases hm:l[k] with
  |true=>
   have hmk:Mk l (k:Int):=⟨by omega,by rw [Int.toNat_natCast,hx,hm]⟩
   obtain ⟨l',q',h1,M⟩:=awI xs l q hl hxs hb
   exact ⟨l',q',h1,M.len,M.mono,fun a ha=>by
    rcases List.mem_cons.1 ha with rfl|ha
    ·exact M.mono _ hmk
    ·exact M.root a ha,fun a ha=>(M.only a ha).imp id (fun h=>List.mem_cons_of_mem _ h),M.sub,M.inq,M.new,M.cnt⟩
  |false=>
   have hc:=awH l k (by rw [hx,hm])
   rw [cond_false,kZ (by omega),Option.bind_some]
   have hset:kX l (k:Int) true=l.set k true:=by unfold kX; simp
   rw [hset]
   obtain ⟨l',q',h1,M⟩:=awI xs (l.set k true) (q ++ [(k:Int)]) (by simpa using hl) hxs (by rw [List.length_append]; simp; omega)
   have hak:Mk (l.set k true) (k:Int):=(Us hkl _).2 (.inl rfl)
   refine ⟨l',q',h1,by simpa using M.len,fun a ha=>M.mono a ((Us hkl a).2 (.inr ha)),fun a ha=>?_,fun a ha=>?_,fun a ha=>M.sub a (by simp [ha]),fun a ha=>?_,fun a ha=>?_,?_⟩
   ·rcases List.mem_cons.1 ha with rfl|ha
    ·exact M.mono _ hak
    ·exact M.root a ha
   ·rcases M.only a ha with h|h
    ·rcases (Us hkl a).1 h with rfl|h
     ·exact .inr (by simp)
     ·exact .inl h
    ·exact .inr (List.mem_cons_of_mem _ h)
   ·rcases M.inq a ha with h|h
    ·rcases List.mem_append.1 h with h|h
     ·exact .inl h
     ·simp at h; subst h; exact .inr (M.mono _ hak)
    ·exact .inr h
   ·rcases M.new a ha with h|h
    ·rcases (Us hkl a).1 h with rfl|h
     ·exact .inr (M.sub _ (by simp))
     ·exact .inl h
    ·exact .inr h
   ·have:=M.cnt
    rw [List.length_append] at this
    simp at this
    omega
theorem dqL {m:aN} (G:VA m) :∀(g:Nat) (l:List Bool) (q:List Int),l.length=m.heap.length→(∀a∈q,Mk l a)→(∀a,Mk l a→a∈q ∨∀e∈af4 m a,Mk l e)→q.length+l.count false < g→q.length+l.count false≤4294967296→
  ∃l',dqM m g l q=some l'∧l'.length=l.length∧(∀a,Mk l a→Mk l' a)∧(∀a,Mk l' a→∀e∈af4 m a,Mk l' e)∧∀P:Int→Prop,(∀a,P a→∀e∈af4 m a,P e)→(∀a,Mk l a→P a)→∀a,Mk l' a→P a
 |0,l,q,_,_,_,h,_=>by omega
 |g+1,l,[],hl,hq,hc,hg,hb=>⟨l,rfl,rfl,fun _ h=>h,fun a ha=>(hc a ha).resolve_left (fun h=>by cases h),fun P _ h=>h⟩
 |g+1,l,a :: q,hl,hq,hc,hg,hb=>by
  have ha:=hq a (by simp)
  have hlt:a.toNat < l.length:=lt_of_some ha.2
  obtain ⟨k,rfl,hk⟩:=ato (n:=m.heap.length) (a:=a) ⟨ha.1,by omega⟩
  have ht:m.heap[k]? = some m.heap[k]:=List.getElem?_eq_getElem hk
  have hen:=anG ht
  have e:dqM m (g+1) l ((k:Int) :: q)=(fC m.heap (k:Int)).bind fun t=>(mkM t.closure.env l q).bind fun s=>dqM m g s.1 s.2:=rfl
  rw [e,gG ht,Option.bind_some]
  rw [List.length_cons] at hg hb
  obtain ⟨l1,q1,e1,M⟩:=awI (n:=m.heap.length) m.heap[k].closure.env l q hl (G.hp _ (List.getElem_mem hk)).1 (by omega)
  rw [e1,Option.bind_some]
  have hcnt:=M.cnt
  obtain ⟨l',h1,h2,h3,h4,h5⟩:=dqL G g l1 q1 (M.len.trans hl) (fun b hb=>by
    rcases M.inq b hb with h|h
    ·exact M.mono b (hq b (by simp [h]))
    ·exact h)
   (fun b hb=>by
    rcases M.new b hb with h|h
    ·rcases hc b h with h'|h'
     ·rcases List.mem_cons.1 h' with rfl|h'
      ·exact .inr (fun e he=>M.root e (by rw [← hen]; exact he))
      ·exact .inl (M.sub b h')
     ·exact .inr (fun e he=>M.mono e (h' e he))
    ·exact .inl h) (by omega) (by omega)
  refine ⟨l',h1,h2.trans M.len,fun b hb=>h3 b (M.mono b hb),h4,fun P hP h0=>h5 P hP (fun b hb=>?_)⟩
  rcases M.only b hb with h|h
  ·exact h0 b h
  ·exact hP (k:Int) (h0 _ ha) b (by rw [hen]; exact h)
theorem aGV {m:aN} (G:VA m):InN m.heap.length (Ut m):=fun a ha=>by
 unfold Ut at ha
 rcases List.mem_append.1 ha with ha|ha
 ·exact G.ct.1 a ha
 ·obtain ⟨f,hf,ha⟩:=List.mem_flatMap.1 ha
  have hst:=G.st f hf
  unfold H6 at ha
  rcases List.mem_append.1 ha with ha|ha
  ·cases hk:(f.kind==1||f.kind==2) with
   |false=>rw [hk] at ha; cases ha
   |true=>
    rw [hk] at ha
    simp at ha hk
    subst ha
    exact hst.2 hk
  ·exact hst.1.1 a ha
theorem abx (n:Nat) (a:Int):¬ Mk (List.replicate n false) a:=fun h=>by
 have:=h.2
 rw [List.getElem?_replicate] at this
 split at this
 ·cases this
 ·cases this
theorem aGW {m:aN} (G:VA m) :∃l',r_ (m.heap.length+2) m=some l'∧MC m (Ut m) (List.replicate m.heap.length false) l':=by
 have hs:=G.small
 unfold r_
 rw [kZ (by omega),Option.bind_some]
 have hr:=aGV G
 obtain ⟨l1,q1,e1,M⟩:=awI (n:=m.heap.length) (Ut m) (List.replicate m.heap.length false) [] (by simp) hr (by simp; omega)
 have e2:(mkM m.control.env (List.replicate m.heap.length false) []).bind (fun s0=>(stM m.stack s0.1 s0.2).bind fun s1=>dqM m (m.heap.length+2) s1.1 s1.2)=dqM m (m.heap.length+2) l1 q1:=by
  have:((mkM m.control.env (List.replicate m.heap.length false) []).bind fun s0=>stM m.stack s0.1 s0.2)=some (l1,q1):=by
   rw [← e1]
   unfold Ut
   rw [abw]
   congr 1
   funext s
   exact stM_eq _ _ _
  rw [← Option.bind_assoc,this,Option.bind_some]
 rw [e2]
 have hcnt:=M.cnt
 simp only [List.length_nil,List.count_replicate_self,Nat.zero_add] at hcnt
 obtain ⟨l',h1,h2,h3,h4,h5⟩:=dqL G (m.heap.length+2) l1 q1 (by rw [M.len]; simp) (fun a ha=>(M.inq a ha).resolve_left (fun h=>by cases h)) (fun a ha=>.inl ((M.new a ha).resolve_left (abx _ a))) (by omega) (by omega)
 refine ⟨l',h1,h2.trans M.len,fun a ha=>absurd ha (abx _ a),fun a ha=>h3 a (M.root a ha),fun _=>h4,fun P hP h0 hR=>h5 P hP (fun a ha=>hR a ((M.only a ha).resolve_left (abx _ a)))⟩
theorem aqe {b:dY} {m:aN} (h:SX b m=true):VA m:=by
 unfold SX at h
 simp only [Bool.and_eq_true,List.all_eq_true,decide_eq_true_eq] at h
 obtain ⟨⟨_,⟨h1,h2⟩,h3⟩,h4,h5⟩:=h
 have cl :∀c:ay,HY (b.defs.length:Int) (m.heap.length:Int) c=true→InN m.heap.length c.env∧c.env.length≤256:=fun c hc=>by
  unfold HY at hc
  simp only [Bool.and_eq_true,List.all_eq_true,decide_eq_true_eq] at hc
  refine ⟨fun a ha=>?_,hc.2.1⟩
  have:=hc.2.2 a ha
  unfold ni at this
  simp at this
  omega
 refine ⟨h1,fun t ht=>cl _ (h5 t ht).1,cl _ h3,fun f hf=>?_⟩
 have hfr:=h4 f hf
 unfold frD at hfr
 split at hfr
 ·rename_i k3
  simp only [Bool.and_eq_true] at hfr
  exact ⟨cl _ hfr.2.2,fun hk=>by omega⟩
 ·simp only [Bool.and_eq_true] at hfr
  refine ⟨?_,fun hk=>?_⟩
  ·have hb:=hfr.1
   unfold QH at hb
   simp only [Bool.and_eq_true,decide_eq_true_eq] at hb
   have he:f.closure.env=[]:=List.eq_nil_of_length_eq_zero hb.2
   rw [he]
   exact ⟨fun a ha=>(by cases ha),(by simp)⟩
  ·have h2:=hfr.2
   rw [if_pos hk] at h2
   simp only [Bool.and_eq_true] at h2
   have:=h2.1
   unfold ni at this
   simp at this
   omega
theorem axN {m:aN} (G:VA m):r_ (m.heap.length+2) m=tN m:=by
 obtain ⟨l1,e1,S1⟩:=aGW G
 obtain ⟨l2,e2,S2⟩:=anH G
 rw [e1,e2,S1.uniq (abx _) S2]
end
section
open Go.RowKit
theorem aaE (xs:List Int) (hs:xs.length≤1048576):uO xs=some xs:=by
 unfold uO
 rw [kZ (by omega),Option.bind_some]
 exact awd (L:=kG xs rY) (K:=some)
  (fun g k acc hk hg=>by simp -implicitDefEqProofs only [kG,wI,LD hk,cond_true,jY hk,Option.bind_some,hg])
  (fun g acc=>by simp -implicitDefEqProofs only [kG,wI,LG,cond_false,rY])
end
section
open Go.RowKit
set_option maxRecDepth 100000
noncomputable def uU (d0:List Int) (d1:Int):Option Int:=
  ((ck (d1 - (d0.length:Int))).bind fun s1=>(bif (decide (s1 < 0)) then some (-1) else some s1))
set_option maxHeartbeats 2000000 in
theorem H7 (d0:List Int) (d1:Int) (r:Int) (hm:uU d0 d1=some r) (v0:Value) (w:World) (hv0:Sl nR 1 w v0 d0) :
    Calls Tryz.prog 42 #[v0,.int .i64 d1] w fun e w'=>e=.returned (.int .i64 r)∧Below w.heap.size w w':=by
  obtain ⟨Bc,na0,ca0,rfl,ha0,GN⟩:=hv0;obtain ⟨rfl,qa0⟩:=bI ha0 GN;have T:=Below.refl w.heap.size w;unfold uU at hm;refine enter 12 Tryz.func42 rfl rfl rfl ?_;intro f hf;have s0:f 0=.slice Bc d0.length ca0:=hf 0 _ rfl;have s1:f 1=.int .i64 d1:=hf 1 _ rfl;refine wp_seq<|au rfl<|aW (.int .i64 0)<|RQ.nil<|ah<|wp_seq<|au rfl<|aT s1<|aT s0<|yH rfl ?_;obtain ⟨s1,ks1,hm⟩:=bnd hm;replace ks1:=jg ks1;refine uZ (.int .i64 s1) rfl rfl (by rw [BN ks1.2,ks1.1])<|aW (.int .i64 s1)<|RQ.nil<|ah<|wp_seq<|wp_seq<|au rfl<|dF (.int .i64 s1)<|iq (.bool (decide (s1 < 0)))<|RQ.nil<|ah ?_;rcases aB (decide (s1 < 0)) with c2|c2
  ·replace hm:=cF c2 hm;have pc2:=of_decide_eq_false c2;refine iH c2<|wp_skip<|ah<|wp_seq<|au rfl<|dF (.int .i64 s1)<|aW (.int .i64 s1)<|RQ.nil<|ah<|wp_ret ?_
   cases hm
   exact (aV rfl rfl rfl ⟨rfl,T⟩)
  replace hm:=cT c2 hm;have pc2:=of_decide_eq_true c2;refine ig c2<|wp_seq<|au rfl<|aW (.int .i64 (-1))<|RQ.nil<|ah<|wp_ret ?_
  cases hm
  exact (aF (aV rfl rfl rfl ⟨rfl,T⟩))
noncomputable def uI (i3:Int):Option Int:=
  some i3
noncomputable def zq (iZ:ak→Int→Option Int) (d0:List ak) (eU:Int→Int→Option Int) (K1:Int→Option Int) (i5:Int) (i6:Int):Option Int:=
  (bif (decide (i6 < (d0.length:Int))) then ((fC d0 i6).bind fun x9=>((iZ x9 i5).bind fun y20=>(bif (decide (y20 < 0)) then some (-1) else (eU y20 (i6+1))))) else (K1 i5))
noncomputable def lX (iZ:ak→Int→Option Int) (d0:List ak) (K1:Int→Option Int):Nat→Int→Int→Option Int
  |0,_,_=>none
  |g+1,i5,i6=>zq iZ d0 (lX iZ d0 K1 g) K1 i5 i6
noncomputable def AL (nM:(List ak)→Int→Option Int) (iZ:ak→Int→Option Int) (d0:List ak) (d1:Int):Option Int:=
  ((ck (d1 - (d0.length:Int))).bind fun s1=>(bif (decide (s1 < 0)) then some (-1) else (lX iZ d0 uI (d0.length+1) s1 0)))
set_option maxHeartbeats 2000000 in
theorem aaF (nM:(List ak)→Int→Option Int) (iZ:ak→Int→Option Int) (ih0 :∀(d0:List ak) (d1:Int) (r:Int) (hm:nM d0 d1=some r) (v0:Value) (w:World) (hv0:Sl bf 4 w v0 d0),Calls Tryz.prog 15 #[v0,.int .i64 d1] w fun e w'=>e=.returned (.int .i64 r)∧Below w.heap.size w w') (ih1 :∀(d0:ak) (d1:Int) (r:Int) (hm:iZ d0 d1=some r) (v0:Value) (w:World) (hv0:St bf w v0 d0),Calls Tryz.prog 41 #[v0,.int .i64 d1] w fun e w'=>e=.returned (.int .i64 r)∧Below w.heap.size w w') :∀(d0:List ak) (d1:Int) (r:Int) (hm:AL nM iZ d0 d1=some r) (v0:Value) (w:World) (hv0:Sl bf 4 w v0 d0),
    Calls Tryz.prog 15 #[v0,.int .i64 d1] w fun e w'=>e=.returned (.int .i64 r)∧Below w.heap.size w w':=by
  intro d0 d1 r hm v0 w hv0;obtain ⟨Bc,na0,ca0,rfl,ha0,GN⟩:=hv0;obtain ⟨rfl,qa0⟩:=bI ha0 GN;have T:=Below.refl w.heap.size w;unfold AL at hm;refine enter 27 Tryz.func15 rfl rfl rfl ?_;intro f hf;have s0:f 0=.slice Bc d0.length ca0:=hf 0 _ rfl;have s1:f 1=.int .i64 d1:=hf 1 _ rfl;refine wp_seq<|au rfl<|aW (.int .i64 0)<|RQ.nil<|ah<|wp_seq<|au rfl<|aT s1<|aT s0<|yH rfl ?_;obtain ⟨s1,ks1,hm⟩:=bnd hm;replace ks1:=jg ks1;refine uZ (.int .i64 s1) rfl rfl (by rw [BN ks1.2,ks1.1])<|aW (.int .i64 s1)<|RQ.nil<|ah<|wp_seq<|wp_seq<|au rfl<|dF (.int .i64 s1)<|iq (.bool (decide (s1 < 0)))<|RQ.nil<|ah ?_;rcases aB (decide (s1 < 0)) with c2|c2
  ·replace hm:=cF c2 hm;have pc2:=of_decide_eq_false c2;refine iH c2<|wp_skip<|ah<|wp_seq<|wp_seq<|au rfl<|aW (.int .i64 0)<|RQ.nil<|ah<|wp_block ?_;obtain ⟨K1,hK1,hm⟩ :∃K,K=uI∧lX iZ d0 K (d0.length+1) s1 0=some r:=⟨_,rfl,hm⟩;refine dG (fun g f w'=>∃(i5:Int) (i6:Int),f 0=.slice Bc d0.length ca0∧f 1=.int .i64 i5∧f 5=.int .i64 i6∧0≤i6∧Below w.heap.size w w'∧lX iZ d0 K1 g i5 i6=some r) 0 (fun f w'=>∃(i3:Int),f 1=.int .i64 i3∧Below w.heap.size w w'∧uI i3=some r) (d0.length+1) ⟨s1,0,s0,rfl,rfl,(by omega),T,hm⟩ ?_ ?_
   ·rintro f w4 ⟨i3,BO,T,hm⟩;unfold uI at hm;refine dW (ah ?_);refine wp_seq<|au rfl<|aT BO<|aW (.int .i64 i3)<|RQ.nil<|ah<|wp_ret ?_
    cases hm
    exact (aV rfl rfl rfl ⟨rfl,T⟩)
   rintro g f w7 ⟨i5,i6,dQ,iF,jD,P6,T,hm⟩;rcases g with _|g
   ·simp only [lX] at hm; cases hm
   obtain ⟨eU,d_,hm⟩ :∃z,z=lX iZ d0 K1 g∧zq iZ d0 z K1 i5 i6=some r:=⟨_,rfl,hm⟩;unfold zq at hm;refine wp_seq<|wp_seq<|au rfl<|aT jD<|aT dQ<|yH rfl<|iq (.bool (decide (i6 < (d0.length:Int))))<|RQ.nil<|ah ?_;rcases aB (decide (i6 < (d0.length:Int))) with c8|c8
   ·replace hm:=cF c8 hm;have pc8:=of_decide_eq_false c8;refine iH c8<|wp_exit ?_;exact (bQ (bQ (iW ⟨_,rfl,⟨i5,iF,T,(by rw [hK1] at hm; exact hm)⟩⟩)))
   replace hm:=cT c8 hm;have pc8:=of_decide_eq_true c8;refine ig c8<|wp_skip<|ah<|wp_seq<|wp_block<|wp_seq<|cZ rfl<|aT dQ<|aT jD ?_;obtain ⟨x9,NQ,hm⟩:=bnd hm;obtain ⟨k10,ag7,ag8,NQ⟩:=aU NQ;obtain ⟨b16,o17,rfl,abj⟩:=ha0.addr (by omega);obtain ⟨aAu,Dw,KU⟩:=ha0.el NQ;have WT:=Dw;obtain ⟨A18,n18,c18,A19,n19,c19,rfl,⟨h18,r18⟩,⟨h19,r19⟩⟩:=(bG Dw);obtain ⟨rfl,q18⟩:=bI h18 r18;obtain ⟨rfl,q19⟩:=bI h19 r19;refine RQ.y rfl (Y.indexAddr (m:=k10) (sz:=4) rfl rfl ag7 ag8 (by kernel_rfl))<|LC [.int .i64 x9.kind,.int .i64 x9.value,.slice A18 x9.data.length c18,.slice A19 x9.kids.length c19] rfl (cells4 (bV (cellT T (KU 0 _ rfl))) (bV (cellT T (KU 1 _ rfl))) (bV (cellT T (KU 2 _ rfl))) (bV (cellT T (KU 3 _ rfl))))<|aT iF ?_;obtain ⟨y20,e21,hm⟩:=bnd hm;refine RQ.call rfl (qV rfl rfl) (by kernel_rfl) (v:=.int .i64 y20) (bel (K:=fun _=>True) fun w' hb'=>(ih1 x9 i5 _ e21 _ w' (fE (R:=bf) (dR ⟨_,_,_,_,_,_,rfl,⟨aY.now aG h18 (dB) (Tt T hb'),r18⟩,⟨aY.now aK h19 (dB) (Tt T hb'),r19⟩⟩))))<|aW (.int .i64 y20)<|RQ.nil ?_;intro MO LU;have amn:=LU.size;have T:=Tt T LU;refine ah<|wp_seq<|au rfl<|dF (.int .i64 y20)<|iq (.bool (decide (y20 < 0)))<|RQ.nil<|ah ?_;rcases aB (decide (y20 < 0)) with c24|c24
   ·replace hm:=cF c24 hm;have pc24:=of_decide_eq_false c24;refine iH c24<|wp_skip ?_;refine eF (ah ?_);refine au rfl<|aT jD<|RQ.y rfl (Y.dS rfl rfl (bn (m:=i6) (by omega)))<|aW (.int .i64 (i6+1))<|RQ.nil ?_;exact (ah ⟨g,_,Nat.lt_succ_self _,rfl,⟨y20,(i6+1),dQ,rfl,rfl,(by omega),T,(by rw [← d_]; exact hm)⟩⟩)
   replace hm:=cT c24 hm;have pc24:=of_decide_eq_true c24;refine ig c24<|wp_seq<|au rfl<|aW (.int .i64 (-1))<|RQ.nil<|ah<|wp_ret ?_
   cases hm
   exact (bC (aF (aF (jG (bC (aF (aV rfl rfl rfl ⟨rfl,T⟩)))))))
  replace hm:=cT c2 hm;have pc2:=of_decide_eq_true c2;refine ig c2<|wp_seq<|au rfl<|aW (.int .i64 (-1))<|RQ.nil<|ah<|wp_ret ?_
  cases hm
  exact (aF (aV rfl rfl rfl ⟨rfl,T⟩))
noncomputable def B_ (nM:(List ak)→Int→Option Int) (iZ:ak→Int→Option Int) (d0:ak) (d1:Int):Option Int:=
  ((uU d0.data d1).bind fun y7=>(bif (decide (y7 < 0)) then some (-1) else ((nM d0.kids y7).bind fun YK=>(bif (decide (YK < 0)) then some (-1) else some YK))))
set_option maxHeartbeats 2000000 in
theorem aby (nM:(List ak)→Int→Option Int) (iZ:ak→Int→Option Int) (ih0 :∀(d0:List ak) (d1:Int) (r:Int) (hm:nM d0 d1=some r) (v0:Value) (w:World) (hv0:Sl bf 4 w v0 d0),Calls Tryz.prog 15 #[v0,.int .i64 d1] w fun e w'=>e=.returned (.int .i64 r)∧Below w.heap.size w w') (ih1 :∀(d0:ak) (d1:Int) (r:Int) (hm:iZ d0 d1=some r) (v0:Value) (w:World) (hv0:St bf w v0 d0),Calls Tryz.prog 41 #[v0,.int .i64 d1] w fun e w'=>e=.returned (.int .i64 r)∧Below w.heap.size w w') :∀(d0:ak) (d1:Int) (r:Int) (hm:B_ nM iZ d0 d1=some r) (v0:Value) (w:World) (hv0:St bf w v0 d0),
    Calls Tryz.prog 41 #[v0,.int .i64 d1] w fun e w'=>e=.returned (.int .i64 r)∧Below w.heap.size w w':=by
  intro d0 d1 r hm v0 w hv0;obtain ⟨lg,rfl,hRR0⟩:=hv0;obtain ⟨A1,n1,c1,A2,n2,c2,rfl,⟨h1,r1⟩,⟨h2,r2⟩⟩:=(bG hRR0);obtain ⟨rfl,q1⟩:=bI h1 r1;obtain ⟨rfl,q2⟩:=bI h2 r2;have T:=Below.refl w.heap.size w;unfold B_ at hm;refine enter 18 Tryz.func41 rfl rfl rfl ?_;intro f hf;have s0:f 0=.agg #[.int .i64 d0.kind,.int .i64 d0.value,.slice A1 d0.data.length c1,.slice A2 d0.kids.length c2]:=hf 0 _ rfl;have s1:f 1=.int .i64 d1:=hf 1 _ rfl;refine wp_seq<|bF rfl ?_;refine RL.box rfl s0 (fun w3 B4 hb5 LP=>?_);replace B4:dD w3 w.heap.size 27 #[.int .i64 d0.kind,.int .i64 d0.value,.slice A1 d0.data.length c1,.slice A2 d0.kids.length c2]:=B4;have GB4:w.heap.size≤w.heap.size:=T.size;have T:=Tt T hb5;refine Ez (.int .i64 0)<|RL.nil<|ah<|wp_seq<|cZ rfl<|gy 2 rfl<|gZ (.slice A1 d0.data.length c1) rfl (bV (aj B4 (i:=2) rfl))<|aT s1 ?_;obtain ⟨y7,e8,hm⟩:=bnd hm;refine RQ.call rfl (qV rfl rfl) (by kernel_rfl) (v:=.int .i64 y7) (bel (K:=fun _=>True) fun w' hb'=>(H7 d0.data d1 _ e8 _ w' (eY aG h1 r1 (Tt T hb'))))<|aW (.int .i64 y7)<|RQ.nil ?_;intro w9 Au;have B4:=aX B4 Au;have T:=Tt T Au;refine ah<|wp_seq<|wp_seq<|au rfl<|dF (.int .i64 y7)<|iq (.bool (decide (y7 < 0)))<|RQ.nil<|ah ?_;rcases aB (decide (y7 < 0)) with c11|c11
  ·replace hm:=cF c11 hm;have atc:=of_decide_eq_false c11;refine iH c11<|wp_skip<|ah<|wp_seq<|cZ rfl<|gy 3 rfl<|gZ (.slice A2 d0.kids.length c2) rfl (bV (aj B4 (i:=3) rfl))<|dF (.int .i64 y7) ?_;obtain ⟨YK,e13,hm⟩:=bnd hm;refine RQ.call rfl (qV rfl rfl) (by kernel_rfl) (v:=.int .i64 YK) (bel (K:=fun _=>True) fun w' hb'=>(ih0 d0.kids y7 _ e13 _ w' (eY aK h2 r2 (Tt T hb'))))<|aW (.int .i64 YK)<|RQ.nil ?_;intro WQ PL;have T:=Tt T PL;refine ah<|wp_seq<|wp_seq<|au rfl<|dF (.int .i64 YK)<|iq (.bool (decide (YK < 0)))<|RQ.nil<|ah ?_;rcases aB (decide (YK < 0)) with c16|c16
   ·replace hm:=cF c16 hm;have aLQ:=of_decide_eq_false c16;refine iH c16<|wp_skip<|ah<|wp_seq<|au rfl<|dF (.int .i64 YK)<|aW (.int .i64 YK)<|RQ.nil<|ah<|wp_ret ?_
    cases hm
    exact (aV rfl rfl rfl ⟨rfl,T⟩)
   replace hm:=cT c16 hm;have aLQ:=of_decide_eq_true c16;refine ig c16<|wp_seq<|au rfl<|aW (.int .i64 (-1))<|RQ.nil<|ah<|wp_ret ?_
   cases hm
   exact (aF (aV rfl rfl rfl ⟨rfl,T⟩))
  replace hm:=cT c11 hm;have atc:=of_decide_eq_true c11;refine ig c11<|wp_seq<|au rfl<|aW (.int .i64 (-1))<|RQ.nil<|ah<|wp_ret ?_
  cases hm
  exact (aF (aV rfl rfl rfl ⟨rfl,T⟩))
noncomputable def wu:Nat→((List ak)→Int→Option Int) × (ak→Int→Option Int)
 |0=>(fun _ _=>none,fun _ _=>none)
 |dJ+1=>(AL (wu dJ).1 (wu dJ).2,B_ (wu dJ).1 (wu dJ).2)
noncomputable def wS (dJ:Nat):(List ak)→Int→Option Int:=(wu dJ).1
noncomputable def vS (dJ:Nat):ak→Int→Option Int:=(wu dJ).2
theorem N8 :∀dJ:Nat,(∀(d0:List ak) (d1:Int) (r:Int) (hm:wS dJ d0 d1=some r) (v0:Value) (w:World) (hv0:Sl bf 4 w v0 d0),Calls Tryz.prog 15 #[v0,.int .i64 d1] w fun e w'=>e=.returned (.int .i64 r)∧Below w.heap.size w w')∧(∀(d0:ak) (d1:Int) (r:Int) (hm:vS dJ d0 d1=some r) (v0:Value) (w:World) (hv0:St bf w v0 d0),Calls Tryz.prog 41 #[v0,.int .i64 d1] w fun e w'=>e=.returned (.int .i64 r)∧Below w.heap.size w w'):=by
 intro dJ
 induction dJ with
 |zero=>exact ⟨(fun _ _ r hm=>by have h0:(none:Option _)=some r:=hm; cases h0),(fun _ _ r hm=>by have h0:(none:Option _)=some r:=hm; cases h0)⟩
 |succ dJ ih=>exact ⟨aaF _ _ (ih).1 (ih).2,aby _ _ (ih).1 (ih).2⟩
theorem ad5 (dJ : Nat) : ∀ (d0 : List ak) (d1 : Int) (r : Int) (hm : wS dJ d0 d1 = some r) (v0 : Value) (w : World) (hv0 : Sl bf 4 w v0 d0), Calls Tryz.prog 15 #[v0, .int .i64 d1] w fun e w' => e = .returned (.int .i64 r) ∧ Below w.heap.size w w' := (N8 dJ).1
theorem af5 (dJ : Nat) : ∀ (d0 : ak) (d1 : Int) (r : Int) (hm : vS dJ d0 d1 = some r) (v0 : Value) (w : World) (hv0 : St bf w v0 d0), Calls Tryz.prog 41 #[v0, .int .i64 d1] w fun e w' => e = .returned (.int .i64 r) ∧ Below w.heap.size w w' := (N8 dJ).2
noncomputable def JU (d0:dY) (d1:Int):Option Int:=
  ((wS (SizeOf.sizeOf d0.defs) d0.defs d1).bind fun y6=>(bif (decide (y6 < 0)) then some (-1) else some y6))
set_option maxHeartbeats 2000000 in
theorem af6 (d0:dY) (d1:Int) (r:Int) (hm:JU d0 d1=some r) (v0:Value) (w:World) (hv0:St iI w v0 d0) :
    Calls Tryz.prog 4 #[v0,.int .i64 d1] w fun e w'=>e=.returned (.int .i64 r)∧Below w.heap.size w w':=by
  obtain ⟨lg,rfl,⟨A1,n1,c1,rfl,⟨h1,r1⟩⟩⟩:=hv0;obtain ⟨rfl,q1⟩:=bI h1 r1;have T:=Below.refl w.heap.size w;unfold JU at hm;refine enter 12 Tryz.func4 rfl rfl rfl ?_;intro f hf;have s0:f 0=.agg #[.slice A1 d0.defs.length c1]:=hf 0 _ rfl;have s1:f 1=.int .i64 d1:=hf 1 _ rfl;refine wp_seq<|bF rfl ?_;refine RL.box rfl s0 (fun w2 B3 hb4 axz=>?_);replace B3:dD w2 w.heap.size 24 #[.slice A1 d0.defs.length c1]:=B3;have GB3:w.heap.size≤w.heap.size:=T.size;have T:=Tt T hb4;refine Ez (.int .i64 0)<|RL.nil<|ah<|wp_seq<|cZ rfl<|gy 0 rfl<|gZ (.slice A1 d0.defs.length c1) rfl (bV (aj B3 (i:=0) rfl))<|aT s1 ?_;obtain ⟨y6,e7,hm⟩:=bnd hm;refine RQ.call rfl (qV rfl rfl) (by kernel_rfl) (v:=.int .i64 y6) (bel (K:=fun _=>True) fun w' hb'=>(ad5 (SizeOf.sizeOf d0.defs) d0.defs d1 _ e7 _ w' (eY aK h1 r1 (Tt T hb'))))<|aW (.int .i64 y6)<|RQ.nil ?_;intro w8 Zc;have T:=Tt T Zc;refine ah<|wp_seq<|wp_seq<|au rfl<|dF (.int .i64 y6)<|iq (.bool (decide (y6 < 0)))<|RQ.nil<|ah ?_;rcases aB (decide (y6 < 0)) with c10|c10
  ·replace hm:=cF c10 hm;have aAz:=of_decide_eq_false c10;refine iH c10<|wp_skip<|ah<|wp_seq<|au rfl<|dF (.int .i64 y6)<|aW (.int .i64 y6)<|RQ.nil<|ah<|wp_ret ?_
   cases hm
   exact (aV rfl rfl rfl ⟨rfl,T⟩)
  replace hm:=cT c10 hm;have aAz:=of_decide_eq_true c10;refine ig c10<|wp_seq<|au rfl<|aW (.int .i64 (-1))<|RQ.nil<|ah<|wp_ret ?_
  cases hm
  exact (aF (aV rfl rfl rfl ⟨rfl,T⟩))
noncomputable def su (d0:ay) (d1:Int):Option Int:=
  ((vS (SizeOf.sizeOf (⟨d0.term.kind,d0.term.value,d0.term.data,d0.term.kids⟩:ak)) (⟨d0.term.kind,d0.term.value,d0.term.data,d0.term.kids⟩:ak) d1).bind fun y8=>(bif (decide (y8 < 0)) then some (-1) else ((uU d0.env y8).bind fun y13=>(bif (decide (y13 < 0)) then some (-1) else some y13))))
set_option maxHeartbeats 2000000 in
theorem FK (d0:ay) (d1:Int) (r:Int) (hm:su d0 d1=some r) (v0:Value) (w:World) (hv0:St dM w v0 d0) :
    Calls Tryz.prog 16 #[v0,.int .i64 d1] w fun e w'=>e=.returned (.int .i64 r)∧Below w.heap.size w w':=by
  obtain ⟨lg,rfl,⟨A1,n1,c1,A2,n2,c2,A3,n3,c3,rfl,⟨h1,r1⟩,⟨h2,r2⟩,⟨h3,r3⟩⟩⟩:=hv0;obtain ⟨rfl,q1⟩:=bI h1 r1;obtain ⟨rfl,q2⟩:=bI h2 r2;obtain ⟨rfl,q3⟩:=bI h3 r3;have T:=Below.refl w.heap.size w;unfold su at hm;refine enter 18 Tryz.func16 rfl rfl rfl ?_;intro f hf;have s0:f 0=.agg #[.int .i64 d0.term.kind,.int .i64 d0.term.value,.slice A1 d0.term.data.length c1,.slice A2 d0.term.kids.length c2,.slice A3 d0.env.length c3]:=hf 0 _ rfl;have s1:f 1=.int .i64 d1:=hf 1 _ rfl;refine wp_seq<|bF rfl ?_;refine RL.box rfl s0 (fun w4 B5 hb6 aha=>?_);replace B5:dD w4 w.heap.size 29 #[.int .i64 d0.term.kind,.int .i64 d0.term.value,.slice A1 d0.term.data.length c1,.slice A2 d0.term.kids.length c2,.slice A3 d0.env.length c3]:=B5;have GB5:w.heap.size≤w.heap.size:=T.size;have T:=Tt T hb6;refine Ez (.int .i64 0)<|RL.nil<|ah<|wp_seq<|cZ rfl<|gy 0 rfl<|LC [.int .i64 d0.term.kind,.int .i64 d0.term.value,.slice A1 d0.term.data.length c1,.slice A2 d0.term.kids.length c2] rfl (cells4 (bV (aj B5 (i:=0) rfl)) (bV (aj B5 (i:=1) rfl)) (bV (aj B5 (i:=2) rfl)) (bV (aj B5 (i:=3) rfl)))<|aT s1 ?_;obtain ⟨y8,e9,hm⟩:=bnd hm;refine RQ.call rfl (qV rfl rfl) (by kernel_rfl) (v:=.int .i64 y8) (bel (K:=fun _=>True) fun w' hb'=>(af5 (SizeOf.sizeOf (⟨d0.term.kind,d0.term.value,d0.term.data,d0.term.kids⟩:ak)) (⟨d0.term.kind,d0.term.value,d0.term.data,d0.term.kids⟩:ak) d1 _ e9 _ w' (fE (R:=bf) (dR ⟨_,_,_,_,_,_,rfl,⟨aY.now aG h1 (dB) (Tt T hb'),r1⟩,⟨aY.now aK h2 (dB) (Tt T hb'),r2⟩⟩))))<|aW (.int .i64 y8)<|RQ.nil ?_;intro w10 Bo;have B5:=aX B5 Bo;have T:=Tt T Bo;refine ah<|wp_seq<|wp_seq<|au rfl<|dF (.int .i64 y8)<|iq (.bool (decide (y8 < 0)))<|RQ.nil<|ah ?_;rcases aB (decide (y8 < 0)) with c12|c12
  ·replace hm:=cF c12 hm;have ahf:=of_decide_eq_false c12;refine iH c12<|wp_skip<|ah<|wp_seq<|cZ rfl<|gy 4 rfl<|gZ (.slice A3 d0.env.length c3) rfl (bV (aj B5 (i:=4) rfl))<|dF (.int .i64 y8) ?_;obtain ⟨y13,e14,hm⟩:=bnd hm;refine RQ.call rfl (qV rfl rfl) (by kernel_rfl) (v:=.int .i64 y13) (bel (K:=fun _=>True) fun w' hb'=>(H7 d0.env y8 _ e14 _ w' (eY aG h3 r3 (Tt T hb'))))<|aW (.int .i64 y13)<|RQ.nil ?_;intro w15 hb16;have T:=Tt T hb16;refine ah<|wp_seq<|wp_seq<|au rfl<|dF (.int .i64 y13)<|iq (.bool (decide (y13 < 0)))<|RQ.nil<|ah ?_;rcases aB (decide (y13 < 0)) with c17|c17
   ·replace hm:=cF c17 hm;have aLR:=of_decide_eq_false c17;refine iH c17<|wp_skip<|ah<|wp_seq<|au rfl<|dF (.int .i64 y13)<|aW (.int .i64 y13)<|RQ.nil<|ah<|wp_ret ?_
    cases hm
    exact (aV rfl rfl rfl ⟨rfl,T⟩)
   replace hm:=cT c17 hm;have aLR:=of_decide_eq_true c17;refine ig c17<|wp_seq<|au rfl<|aW (.int .i64 (-1))<|RQ.nil<|ah<|wp_ret ?_
   cases hm
   exact (aF (aV rfl rfl rfl ⟨rfl,T⟩))
  replace hm:=cT c12 hm;have ahf:=of_decide_eq_true c12;refine ig c12<|wp_seq<|au rfl<|aW (.int .i64 (-1))<|RQ.nil<|ah<|wp_ret ?_
  cases hm
  exact (aF (aV rfl rfl rfl ⟨rfl,T⟩))
noncomputable def DJ (d0:aO) (d1:Int):Option Int:=
  ((uU d0.data d1).bind fun y9=>(bif (decide (y9 < 0)) then some (-1) else ((su (⟨(⟨d0.closure.term.kind,d0.closure.term.value,d0.closure.term.data,d0.closure.term.kids⟩:ak),d0.closure.env⟩:ay) y9).bind fun uN=>(bif (decide (uN < 0)) then some (-1) else some uN))))
set_option maxHeartbeats 2000000 in
theorem ad6 (d0:aO) (d1:Int) (r:Int) (hm:DJ d0 d1=some r) (v0:Value) (w:World) (hv0:St nS w v0 d0) :
    Calls Tryz.prog 43 #[v0,.int .i64 d1] w fun e w'=>e=.returned (.int .i64 r)∧Below w.heap.size w w':=by
  obtain ⟨lg,rfl,⟨A1,n1,c1,A2,n2,c2,A3,n3,c3,A4,n4,c4,rfl,⟨h1,r1⟩,⟨h2,r2⟩,⟨h3,r3⟩,⟨h4,r4⟩⟩⟩:=hv0;obtain ⟨rfl,q1⟩:=bI h1 r1;obtain ⟨rfl,q2⟩:=bI h2 r2;obtain ⟨rfl,q3⟩:=bI h3 r3;obtain ⟨rfl,q4⟩:=bI h4 r4;have T:=Below.refl w.heap.size w;unfold DJ at hm;refine enter 18 Tryz.func43 rfl rfl rfl ?_;intro f hf;have s0:f 0=.agg #[.int .i64 d0.kind,.int .i64 d0.value,.slice A1 d0.data.length c1,.int .i64 d0.closure.term.kind,.int .i64 d0.closure.term.value,.slice A2 d0.closure.term.data.length c2,.slice A3 d0.closure.term.kids.length c3,.slice A4 d0.closure.env.length c4]:=hf 0 _ rfl;have s1:f 1=.int .i64 d1:=hf 1 _ rfl;refine wp_seq<|bF rfl ?_;refine RL.box rfl s0 (fun w5 B6 hb7 aAn=>?_);replace B6:dD w5 w.heap.size 90 #[.int .i64 d0.kind,.int .i64 d0.value,.slice A1 d0.data.length c1,.int .i64 d0.closure.term.kind,.int .i64 d0.closure.term.value,.slice A2 d0.closure.term.data.length c2,.slice A3 d0.closure.term.kids.length c3,.slice A4 d0.closure.env.length c4]:=B6;have GB6:w.heap.size≤w.heap.size:=T.size;have T:=Tt T hb7;refine Ez (.int .i64 0)<|RL.nil<|ah<|wp_seq<|cZ rfl<|gy 2 rfl<|gZ (.slice A1 d0.data.length c1) rfl (bV (aj B6 (i:=2) rfl))<|aT s1 ?_;obtain ⟨y9,e10,hm⟩:=bnd hm;refine RQ.call rfl (qV rfl rfl) (by kernel_rfl) (v:=.int .i64 y9) (bel (K:=fun _=>True) fun w' hb'=>(H7 d0.data d1 _ e10 _ w' (eY aG h1 r1 (Tt T hb'))))<|aW (.int .i64 y9)<|RQ.nil ?_;intro uS Ht;have B6:=aX B6 Ht;have T:=Tt T Ht;refine ah<|wp_seq<|wp_seq<|au rfl<|dF (.int .i64 y9)<|iq (.bool (decide (y9 < 0)))<|RQ.nil<|ah ?_;rcases aB (decide (y9 < 0)) with c13|c13
  ·replace hm:=cF c13 hm;have ag4:=of_decide_eq_false c13;refine iH c13<|wp_skip<|ah<|wp_seq<|cZ rfl<|gy 3 rfl<|LC [.int .i64 d0.closure.term.kind,.int .i64 d0.closure.term.value,.slice A2 d0.closure.term.data.length c2,.slice A3 d0.closure.term.kids.length c3,.slice A4 d0.closure.env.length c4] rfl (cells5 (bV (aj B6 (i:=3) rfl)) (bV (aj B6 (i:=4) rfl)) (bV (aj B6 (i:=5) rfl)) (bV (aj B6 (i:=6) rfl)) (bV (aj B6 (i:=7) rfl)))<|dF (.int .i64 y9) ?_;obtain ⟨uN,e15,hm⟩:=bnd hm;refine RQ.call rfl (qV rfl rfl) (by kernel_rfl) (v:=.int .i64 uN) (bel (K:=fun _=>True) fun w' hb'=>(FK (⟨(⟨d0.closure.term.kind,d0.closure.term.value,d0.closure.term.data,d0.closure.term.kids⟩:ak),d0.closure.env⟩:ay) y9 _ e15 _ w' (fE (R:=dM) ⟨_,_,_,_,_,_,_,_,_,rfl,⟨aY.now aG h2 (dB) (Tt T hb'),r2⟩,⟨aY.now aK h3 (dB) (Tt T hb'),r3⟩,⟨aY.now aG h4 (dB) (Tt T hb'),r4⟩⟩)))<|aW (.int .i64 uN)<|RQ.nil ?_;intro w16 Dq;have T:=Tt T Dq;refine ah<|wp_seq<|wp_seq<|au rfl<|dF (.int .i64 uN)<|iq (.bool (decide (uN < 0)))<|RQ.nil<|ah ?_;rcases aB (decide (uN < 0)) with c18|c18
   ·replace hm:=cF c18 hm;have aZq:=of_decide_eq_false c18;refine iH c18<|wp_skip<|ah<|wp_seq<|au rfl<|dF (.int .i64 uN)<|aW (.int .i64 uN)<|RQ.nil<|ah<|wp_ret ?_
    cases hm
    exact (aV rfl rfl rfl ⟨rfl,T⟩)
   replace hm:=cT c18 hm;have aZq:=of_decide_eq_true c18;refine ig c18<|wp_seq<|au rfl<|aW (.int .i64 (-1))<|RQ.nil<|ah<|wp_ret ?_
   cases hm
   exact (aF (aV rfl rfl rfl ⟨rfl,T⟩))
  replace hm:=cT c13 hm;have ag4:=of_decide_eq_true c13;refine ig c13<|wp_seq<|au rfl<|aW (.int .i64 (-1))<|RQ.nil<|ah<|wp_ret ?_
  cases hm
  exact (aF (aV rfl rfl rfl ⟨rfl,T⟩))
noncomputable def sD (i3:Int):Option Int:=
  some i3
noncomputable def wU (d0:List aO) (eU:Int→Int→Option Int) (K1:Int→Option Int) (i5:Int) (i6:Int):Option Int:=
  (bif (decide (i6 < (d0.length:Int))) then ((fC d0 i6).bind fun x9=>((DJ x9 i5).bind fun y22=>(bif (decide (y22 < 0)) then some (-1) else (eU y22 (i6+1))))) else (K1 i5))
noncomputable def kK (d0:List aO) (K1:Int→Option Int):Nat→Int→Int→Option Int
  |0,_,_=>none
  |g+1,i5,i6=>wU d0 (kK d0 K1 g) K1 i5 i6
noncomputable def Cb (d0:List aO) (d1:Int):Option Int:=
  ((ck (d1 - (d0.length:Int))).bind fun s1=>(bif (decide (s1 < 0)) then some (-1) else (kK d0 sD (d0.length+1) s1 0)))
set_option maxHeartbeats 2000000 in
theorem abz (d0:List aO) (d1:Int) (r:Int) (hm:Cb d0 d1=some r) (v0:Value) (w:World) (hv0:Sl nS 8 w v0 d0) :
    Calls Tryz.prog 17 #[v0,.int .i64 d1] w fun e w'=>e=.returned (.int .i64 r)∧Below w.heap.size w w':=by
  obtain ⟨Bc,na0,ca0,rfl,ha0,GN⟩:=hv0;obtain ⟨rfl,qa0⟩:=bI ha0 GN;have T:=Below.refl w.heap.size w;unfold Cb at hm;refine enter 27 Tryz.func17 rfl rfl rfl ?_;intro f hf;have s0:f 0=.slice Bc d0.length ca0:=hf 0 _ rfl;have s1:f 1=.int .i64 d1:=hf 1 _ rfl;refine wp_seq<|au rfl<|aW (.int .i64 0)<|RQ.nil<|ah<|wp_seq<|au rfl<|aT s1<|aT s0<|yH rfl ?_;obtain ⟨s1,ks1,hm⟩:=bnd hm;replace ks1:=jg ks1;refine uZ (.int .i64 s1) rfl rfl (by rw [BN ks1.2,ks1.1])<|aW (.int .i64 s1)<|RQ.nil<|ah<|wp_seq<|wp_seq<|au rfl<|dF (.int .i64 s1)<|iq (.bool (decide (s1 < 0)))<|RQ.nil<|ah ?_;rcases aB (decide (s1 < 0)) with c2|c2
  ·replace hm:=cF c2 hm;have pc2:=of_decide_eq_false c2;refine iH c2<|wp_skip<|ah<|wp_seq<|wp_seq<|au rfl<|aW (.int .i64 0)<|RQ.nil<|ah<|wp_block ?_;obtain ⟨K1,hK1,hm⟩ :∃K,K=sD∧kK d0 K (d0.length+1) s1 0=some r:=⟨_,rfl,hm⟩;refine dG (fun g f w'=>∃(i5:Int) (i6:Int),f 0=.slice Bc d0.length ca0∧f 1=.int .i64 i5∧f 5=.int .i64 i6∧0≤i6∧Below w.heap.size w w'∧kK d0 K1 g i5 i6=some r) 0 (fun f w'=>∃(i3:Int),f 1=.int .i64 i3∧Below w.heap.size w w'∧sD i3=some r) (d0.length+1) ⟨s1,0,s0,rfl,rfl,(by omega),T,hm⟩ ?_ ?_
   ·rintro f w4 ⟨i3,BO,T,hm⟩;unfold sD at hm;refine dW (ah ?_);refine wp_seq<|au rfl<|aT BO<|aW (.int .i64 i3)<|RQ.nil<|ah<|wp_ret ?_
    cases hm
    exact (aV rfl rfl rfl ⟨rfl,T⟩)
   rintro g f w7 ⟨i5,i6,dQ,iF,jD,P6,T,hm⟩;rcases g with _|g
   ·simp only [kK] at hm; cases hm
   obtain ⟨eU,d_,hm⟩ :∃z,z=kK d0 K1 g∧wU d0 z K1 i5 i6=some r:=⟨_,rfl,hm⟩;unfold wU at hm;refine wp_seq<|wp_seq<|au rfl<|aT jD<|aT dQ<|yH rfl<|iq (.bool (decide (i6 < (d0.length:Int))))<|RQ.nil<|ah ?_;rcases aB (decide (i6 < (d0.length:Int))) with c8|c8
   ·replace hm:=cF c8 hm;have pc8:=of_decide_eq_false c8;refine iH c8<|wp_exit ?_;exact (bQ (bQ (iW ⟨_,rfl,⟨i5,iF,T,(by rw [hK1] at hm; exact hm)⟩⟩)))
   replace hm:=cT c8 hm;have pc8:=of_decide_eq_true c8;refine ig c8<|wp_skip<|ah<|wp_seq<|wp_block<|wp_seq<|cZ rfl<|aT dQ<|aT jD ?_;obtain ⟨x9,NQ,hm⟩:=bnd hm;obtain ⟨k10,ag7,ag8,NQ⟩:=aU NQ;obtain ⟨b16,o17,rfl,abj⟩:=ha0.addr (by omega);obtain ⟨aAu,Dw,KU⟩:=ha0.el NQ;have WT:=Dw;obtain ⟨A18,n18,c18,A19,n19,c19,A20,n20,c20,A21,n21,c21,rfl,⟨h18,r18⟩,⟨h19,r19⟩,⟨h20,r20⟩,⟨h21,r21⟩⟩:=Dw;obtain ⟨rfl,q18⟩:=bI h18 r18;obtain ⟨rfl,q19⟩:=bI h19 r19;obtain ⟨rfl,q20⟩:=bI h20 r20;obtain ⟨rfl,q21⟩:=bI h21 r21;refine RQ.y rfl (Y.indexAddr (m:=k10) (sz:=8) rfl rfl ag7 ag8 (by kernel_rfl))<|LC [.int .i64 x9.kind,.int .i64 x9.value,.slice A18 x9.data.length c18,.int .i64 x9.closure.term.kind,.int .i64 x9.closure.term.value,.slice A19 x9.closure.term.data.length c19,.slice A20 x9.closure.term.kids.length c20,.slice A21 x9.closure.env.length c21] rfl (QC (bV (cellT T (KU 0 _ rfl))) (bV (cellT T (KU 1 _ rfl))) (bV (cellT T (KU 2 _ rfl))) (bV (cellT T (KU 3 _ rfl))) (bV (cellT T (KU 4 _ rfl))) (bV (cellT T (KU 5 _ rfl))) (bV (cellT T (KU 6 _ rfl))) (bV (cellT T (KU 7 _ rfl))))<|aT iF ?_;obtain ⟨y22,e23,hm⟩:=bnd hm;refine RQ.call rfl (qV rfl rfl) (by kernel_rfl) (v:=.int .i64 y22) (bel (K:=fun _=>True) fun w' hb'=>(ad6 x9 i5 _ e23 _ w' (fE (R:=nS) ⟨_,_,_,_,_,_,_,_,_,_,_,_,rfl,⟨aY.now aG h18 (dB) (Tt T hb'),r18⟩,⟨aY.now aG h19 (dB) (Tt T hb'),r19⟩,⟨aY.now aK h20 (dB) (Tt T hb'),r20⟩,⟨aY.now aG h21 (dB) (Tt T hb'),r21⟩⟩)))<|aW (.int .i64 y22)<|RQ.nil ?_;intro w24 PI;have afl:=PI.size;have T:=Tt T PI;refine ah<|wp_seq<|au rfl<|dF (.int .i64 y22)<|iq (.bool (decide (y22 < 0)))<|RQ.nil<|ah ?_;rcases aB (decide (y22 < 0)) with Jj|Jj
   ·replace hm:=cF Jj hm;have pc26:=of_decide_eq_false Jj;refine iH Jj<|wp_skip ?_;refine eF (ah ?_);refine au rfl<|aT jD<|RQ.y rfl (Y.dS rfl rfl (bn (m:=i6) (by omega)))<|aW (.int .i64 (i6+1))<|RQ.nil ?_;exact (ah ⟨g,_,Nat.lt_succ_self _,rfl,⟨y22,(i6+1),dQ,rfl,rfl,(by omega),T,(by rw [← d_]; exact hm)⟩⟩)
   replace hm:=cT Jj hm;have pc26:=of_decide_eq_true Jj;refine ig Jj<|wp_seq<|au rfl<|aW (.int .i64 (-1))<|RQ.nil<|ah<|wp_ret ?_
   cases hm
   exact (bC (aF (aF (jG (bC (aF (aV rfl rfl rfl ⟨rfl,T⟩)))))))
  replace hm:=cT c2 hm;have pc2:=of_decide_eq_true c2;refine ig c2<|wp_seq<|au rfl<|aW (.int .i64 (-1))<|RQ.nil<|ah<|wp_ret ?_
  cases hm
  exact (aF (aV rfl rfl rfl ⟨rfl,T⟩))
noncomputable def DK (d0:bD) (d1:Int):Option Int:=
  ((su (⟨(⟨d0.closure.term.kind,d0.closure.term.value,d0.closure.term.data,d0.closure.term.kids⟩:ak),d0.closure.env⟩:ay) d1).bind fun y8=>(bif (decide (y8 < 0)) then some (-1) else some y8))
set_option maxHeartbeats 2000000 in
theorem ad7 (d0:bD) (d1:Int) (r:Int) (hm:DK d0 d1=some r) (v0:Value) (w:World) (hv0:St yQ w v0 d0) :
    Calls Tryz.prog 44 #[v0,.int .i64 d1] w fun e w'=>e=.returned (.int .i64 r)∧Below w.heap.size w w':=by
  obtain ⟨lg,rfl,⟨A1,n1,c1,A2,n2,c2,A3,n3,c3,rfl,⟨h1,r1⟩,⟨h2,r2⟩,⟨h3,r3⟩⟩⟩:=hv0;obtain ⟨rfl,q1⟩:=bI h1 r1;obtain ⟨rfl,q2⟩:=bI h2 r2;obtain ⟨rfl,q3⟩:=bI h3 r3;have T:=Below.refl w.heap.size w;unfold DK at hm;refine enter 12 Tryz.func44 rfl rfl rfl ?_;intro f hf;have s0:f 0=.agg #[.bool d0.done,.int .i64 d0.closure.term.kind,.int .i64 d0.closure.term.value,.slice A1 d0.closure.term.data.length c1,.slice A2 d0.closure.term.kids.length c2,.slice A3 d0.closure.env.length c3]:=hf 0 _ rfl;have s1:f 1=.int .i64 d1:=hf 1 _ rfl;refine wp_seq<|bF rfl ?_;refine RL.box rfl s0 (fun w4 B5 hb6 aha=>?_);replace B5:dD w4 w.heap.size 93 #[.bool d0.done,.int .i64 d0.closure.term.kind,.int .i64 d0.closure.term.value,.slice A1 d0.closure.term.data.length c1,.slice A2 d0.closure.term.kids.length c2,.slice A3 d0.closure.env.length c3]:=B5;have GB5:w.heap.size≤w.heap.size:=T.size;have T:=Tt T hb6;refine Ez (.int .i64 0)<|RL.nil<|ah<|wp_seq<|cZ rfl<|gy 1 rfl<|LC [.int .i64 d0.closure.term.kind,.int .i64 d0.closure.term.value,.slice A1 d0.closure.term.data.length c1,.slice A2 d0.closure.term.kids.length c2,.slice A3 d0.closure.env.length c3] rfl (cells5 (bV (aj B5 (i:=1) rfl)) (bV (aj B5 (i:=2) rfl)) (bV (aj B5 (i:=3) rfl)) (bV (aj B5 (i:=4) rfl)) (bV (aj B5 (i:=5) rfl)))<|aT s1 ?_;obtain ⟨y8,e9,hm⟩:=bnd hm;refine RQ.call rfl (qV rfl rfl) (by kernel_rfl) (v:=.int .i64 y8) (bel (K:=fun _=>True) fun w' hb'=>(FK (⟨(⟨d0.closure.term.kind,d0.closure.term.value,d0.closure.term.data,d0.closure.term.kids⟩:ak),d0.closure.env⟩:ay) d1 _ e9 _ w' (fE (R:=dM) ⟨_,_,_,_,_,_,_,_,_,rfl,⟨aY.now aG h1 (dB) (Tt T hb'),r1⟩,⟨aY.now aK h2 (dB) (Tt T hb'),r2⟩,⟨aY.now aG h3 (dB) (Tt T hb'),r3⟩⟩)))<|aW (.int .i64 y8)<|RQ.nil ?_;intro w10 Bo;have T:=Tt T Bo;refine ah<|wp_seq<|wp_seq<|au rfl<|dF (.int .i64 y8)<|iq (.bool (decide (y8 < 0)))<|RQ.nil<|ah ?_;rcases aB (decide (y8 < 0)) with c12|c12
  ·replace hm:=cF c12 hm;have ahf:=of_decide_eq_false c12;refine iH c12<|wp_skip<|ah<|wp_seq<|au rfl<|dF (.int .i64 y8)<|aW (.int .i64 y8)<|RQ.nil<|ah<|wp_ret ?_
   cases hm
   exact (aV rfl rfl rfl ⟨rfl,T⟩)
  replace hm:=cT c12 hm;have ahf:=of_decide_eq_true c12;refine ig c12<|wp_seq<|au rfl<|aW (.int .i64 (-1))<|RQ.nil<|ah<|wp_ret ?_
  cases hm
  exact (aF (aV rfl rfl rfl ⟨rfl,T⟩))
noncomputable def sF (i3:Int):Option Int:=
  some i3
noncomputable def wV (d0:List bD) (eU:Int→Int→Option Int) (K1:Int→Option Int) (i5:Int) (i6:Int):Option Int:=
  (bif (decide (i6 < (d0.length:Int))) then ((fC d0 i6).bind fun x9=>((DK x9 i5).bind fun y21=>(bif (decide (y21 < 0)) then some (-1) else (eU y21 (i6+1))))) else (K1 i5))
noncomputable def kL (d0:List bD) (K1:Int→Option Int):Nat→Int→Int→Option Int
  |0,_,_=>none
  |g+1,i5,i6=>wV d0 (kL d0 K1 g) K1 i5 i6
noncomputable def Cc (d0:List bD) (d1:Int):Option Int:=
  ((ck (d1 - (d0.length:Int))).bind fun s1=>(bif (decide (s1 < 0)) then some (-1) else (kL d0 sF (d0.length+1) s1 0)))
set_option maxHeartbeats 2000000 in
theorem abA (d0:List bD) (d1:Int) (r:Int) (hm:Cc d0 d1=some r) (v0:Value) (w:World) (hv0:Sl yQ 6 w v0 d0) :
    Calls Tryz.prog 18 #[v0,.int .i64 d1] w fun e w'=>e=.returned (.int .i64 r)∧Below w.heap.size w w':=by
  obtain ⟨Bc,na0,ca0,rfl,ha0,GN⟩:=hv0;obtain ⟨rfl,qa0⟩:=bI ha0 GN;have T:=Below.refl w.heap.size w;unfold Cc at hm;refine enter 27 Tryz.func18 rfl rfl rfl ?_;intro f hf;have s0:f 0=.slice Bc d0.length ca0:=hf 0 _ rfl;have s1:f 1=.int .i64 d1:=hf 1 _ rfl;refine wp_seq<|au rfl<|aW (.int .i64 0)<|RQ.nil<|ah<|wp_seq<|au rfl<|aT s1<|aT s0<|yH rfl ?_;obtain ⟨s1,ks1,hm⟩:=bnd hm;replace ks1:=jg ks1;refine uZ (.int .i64 s1) rfl rfl (by rw [BN ks1.2,ks1.1])<|aW (.int .i64 s1)<|RQ.nil<|ah<|wp_seq<|wp_seq<|au rfl<|dF (.int .i64 s1)<|iq (.bool (decide (s1 < 0)))<|RQ.nil<|ah ?_;rcases aB (decide (s1 < 0)) with c2|c2
  ·replace hm:=cF c2 hm;have pc2:=of_decide_eq_false c2;refine iH c2<|wp_skip<|ah<|wp_seq<|wp_seq<|au rfl<|aW (.int .i64 0)<|RQ.nil<|ah<|wp_block ?_;obtain ⟨K1,hK1,hm⟩ :∃K,K=sF∧kL d0 K (d0.length+1) s1 0=some r:=⟨_,rfl,hm⟩;refine dG (fun g f w'=>∃(i5:Int) (i6:Int),f 0=.slice Bc d0.length ca0∧f 1=.int .i64 i5∧f 5=.int .i64 i6∧0≤i6∧Below w.heap.size w w'∧kL d0 K1 g i5 i6=some r) 0 (fun f w'=>∃(i3:Int),f 1=.int .i64 i3∧Below w.heap.size w w'∧sF i3=some r) (d0.length+1) ⟨s1,0,s0,rfl,rfl,(by omega),T,hm⟩ ?_ ?_
   ·rintro f w4 ⟨i3,BO,T,hm⟩;unfold sF at hm;refine dW (ah ?_);refine wp_seq<|au rfl<|aT BO<|aW (.int .i64 i3)<|RQ.nil<|ah<|wp_ret ?_
    cases hm
    exact (aV rfl rfl rfl ⟨rfl,T⟩)
   rintro g f w7 ⟨i5,i6,dQ,iF,jD,P6,T,hm⟩;rcases g with _|g
   ·simp only [kL] at hm; cases hm
   obtain ⟨eU,d_,hm⟩ :∃z,z=kL d0 K1 g∧wV d0 z K1 i5 i6=some r:=⟨_,rfl,hm⟩;unfold wV at hm;refine wp_seq<|wp_seq<|au rfl<|aT jD<|aT dQ<|yH rfl<|iq (.bool (decide (i6 < (d0.length:Int))))<|RQ.nil<|ah ?_;rcases aB (decide (i6 < (d0.length:Int))) with c8|c8
   ·replace hm:=cF c8 hm;have pc8:=of_decide_eq_false c8;refine iH c8<|wp_exit ?_;exact (bQ (bQ (iW ⟨_,rfl,⟨i5,iF,T,(by rw [hK1] at hm; exact hm)⟩⟩)))
   replace hm:=cT c8 hm;have pc8:=of_decide_eq_true c8;refine ig c8<|wp_skip<|ah<|wp_seq<|wp_block<|wp_seq<|cZ rfl<|aT dQ<|aT jD ?_;obtain ⟨x9,NQ,hm⟩:=bnd hm;obtain ⟨k10,ag7,ag8,NQ⟩:=aU NQ;obtain ⟨b16,o17,rfl,abj⟩:=ha0.addr (by omega);obtain ⟨aAu,Dw,KU⟩:=ha0.el NQ;have WT:=Dw;obtain ⟨A18,n18,c18,A19,n19,c19,A20,n20,c20,rfl,⟨h18,r18⟩,⟨h19,r19⟩,⟨h20,r20⟩⟩:=Dw;obtain ⟨rfl,q18⟩:=bI h18 r18;obtain ⟨rfl,q19⟩:=bI h19 r19;obtain ⟨rfl,q20⟩:=bI h20 r20;refine RQ.y rfl (Y.indexAddr (m:=k10) (sz:=6) rfl rfl ag7 ag8 (by kernel_rfl))<|LC [.bool x9.done,.int .i64 x9.closure.term.kind,.int .i64 x9.closure.term.value,.slice A18 x9.closure.term.data.length c18,.slice A19 x9.closure.term.kids.length c19,.slice A20 x9.closure.env.length c20] rfl (QB (bV (cellT T (KU 0 _ rfl))) (bV (cellT T (KU 1 _ rfl))) (bV (cellT T (KU 2 _ rfl))) (bV (cellT T (KU 3 _ rfl))) (bV (cellT T (KU 4 _ rfl))) (bV (cellT T (KU 5 _ rfl))))<|aT iF ?_;obtain ⟨y21,e22,hm⟩:=bnd hm;refine RQ.call rfl (qV rfl rfl) (by kernel_rfl) (v:=.int .i64 y21) (bel (K:=fun _=>True) fun w' hb'=>(ad7 x9 i5 _ e22 _ w' (fE (R:=yQ) ⟨_,_,_,_,_,_,_,_,_,rfl,⟨aY.now aG h18 (dB) (Tt T hb'),r18⟩,⟨aY.now aK h19 (dB) (Tt T hb'),r19⟩,⟨aY.now aG h20 (dB) (Tt T hb'),r20⟩⟩)))<|aW (.int .i64 y21)<|RQ.nil ?_;intro w23 V8;have awj:=V8.size;have T:=Tt T V8;refine ah<|wp_seq<|au rfl<|dF (.int .i64 y21)<|iq (.bool (decide (y21 < 0)))<|RQ.nil<|ah ?_;rcases aB (decide (y21 < 0)) with c25|c25
   ·replace hm:=cF c25 hm;have pc25:=of_decide_eq_false c25;refine iH c25<|wp_skip ?_;refine eF (ah ?_);refine au rfl<|aT jD<|RQ.y rfl (Y.dS rfl rfl (bn (m:=i6) (by omega)))<|aW (.int .i64 (i6+1))<|RQ.nil ?_;exact (ah ⟨g,_,Nat.lt_succ_self _,rfl,⟨y21,(i6+1),dQ,rfl,rfl,(by omega),T,(by rw [← d_]; exact hm)⟩⟩)
   replace hm:=cT c25 hm;have pc25:=of_decide_eq_true c25;refine ig c25<|wp_seq<|au rfl<|aW (.int .i64 (-1))<|RQ.nil<|ah<|wp_ret ?_
   cases hm
   exact (bC (aF (aF (jG (bC (aF (aV rfl rfl rfl ⟨rfl,T⟩)))))))
  replace hm:=cT c2 hm;have pc2:=of_decide_eq_true c2;refine ig c2<|wp_seq<|au rfl<|aW (.int .i64 (-1))<|RQ.nil<|ah<|wp_ret ?_
  cases hm
  exact (aF (aV rfl rfl rfl ⟨rfl,T⟩))
noncomputable def JV (d0:aN) (d1:Int):Option Int:=
  ((su (⟨(⟨d0.control.term.kind,d0.control.term.value,d0.control.term.data,d0.control.term.kids⟩:ak),d0.control.env⟩:ay) d1).bind fun tK=>(bif (decide (tK < 0)) then some (-1) else ((Cb d0.stack tK).bind fun GI=>(bif (decide (GI < 0)) then some (-1) else ((Cc d0.heap GI).bind fun y20=>(bif (decide (y20 < 0)) then some (-1) else some y20))))))
set_option maxHeartbeats 2000000 in
theorem af7 (d0:aN) (d1:Int) (r:Int) (hm:JV d0 d1=some r) (v0:Value) (w:World) (hv0:St jQ w v0 d0) :
    Calls Tryz.prog 5 #[v0,.int .i64 d1] w fun e w'=>e=.returned (.int .i64 r)∧Below w.heap.size w w':=by
  obtain ⟨lg,rfl,⟨A1,n1,c1,A2,n2,c2,A3,n3,c3,A4,n4,c4,A5,n5,c5,rfl,⟨h1,r1⟩,⟨h2,r2⟩,⟨h3,r3⟩,⟨h4,r4⟩,⟨h5,r5⟩⟩⟩:=hv0;obtain ⟨rfl,q1⟩:=bI h1 r1;obtain ⟨rfl,q2⟩:=bI h2 r2;obtain ⟨rfl,q3⟩:=bI h3 r3;obtain ⟨rfl,q4⟩:=bI h4 r4;obtain ⟨rfl,q5⟩:=bI h5 r5;have T:=Below.refl w.heap.size w;unfold JV at hm;refine enter 24 Tryz.func5 rfl rfl rfl ?_;intro f hf;have s0:f 0=.agg #[.int .i64 d0.control.term.kind,.int .i64 d0.control.term.value,.slice A1 d0.control.term.data.length c1,.slice A2 d0.control.term.kids.length c2,.slice A3 d0.control.env.length c3,.slice A4 d0.stack.length c4,.slice A5 d0.heap.length c5]:=hf 0 _ rfl;have s1:f 1=.int .i64 d1:=hf 1 _ rfl;refine wp_seq<|bF rfl ?_;refine RL.box rfl s0 (fun w6 B7 hb8 axO=>?_);replace B7:dD w6 w.heap.size 33 #[.int .i64 d0.control.term.kind,.int .i64 d0.control.term.value,.slice A1 d0.control.term.data.length c1,.slice A2 d0.control.term.kids.length c2,.slice A3 d0.control.env.length c3,.slice A4 d0.stack.length c4,.slice A5 d0.heap.length c5]:=B7;have GB7:w.heap.size≤w.heap.size:=T.size;have T:=Tt T hb8;refine Ez (.int .i64 0)<|RL.nil<|ah<|wp_seq<|cZ rfl<|gy 0 rfl<|LC [.int .i64 d0.control.term.kind,.int .i64 d0.control.term.value,.slice A1 d0.control.term.data.length c1,.slice A2 d0.control.term.kids.length c2,.slice A3 d0.control.env.length c3] rfl (cells5 (bV (aj B7 (i:=0) rfl)) (bV (aj B7 (i:=1) rfl)) (bV (aj B7 (i:=2) rfl)) (bV (aj B7 (i:=3) rfl)) (bV (aj B7 (i:=4) rfl)))<|aT s1 ?_;obtain ⟨tK,e11,hm⟩:=bnd hm;refine RQ.call rfl (qV rfl rfl) (by kernel_rfl) (v:=.int .i64 tK) (bel (K:=fun _=>True) fun w' hb'=>(FK (⟨(⟨d0.control.term.kind,d0.control.term.value,d0.control.term.data,d0.control.term.kids⟩:ak),d0.control.env⟩:ay) d1 _ e11 _ w' (fE (R:=dM) ⟨_,_,_,_,_,_,_,_,_,rfl,⟨aY.now aG h1 (dB) (Tt T hb'),r1⟩,⟨aY.now aK h2 (dB) (Tt T hb'),r2⟩,⟨aY.now aG h3 (dB) (Tt T hb'),r3⟩⟩)))<|aW (.int .i64 tK)<|RQ.nil ?_;intro w12 Ad;have B7:=aX B7 Ad;have T:=Tt T Ad;refine ah<|wp_seq<|wp_seq<|au rfl<|dF (.int .i64 tK)<|iq (.bool (decide (tK < 0)))<|RQ.nil<|ah ?_;rcases aB (decide (tK < 0)) with c14|c14
  ·replace hm:=cF c14 hm;have atb:=of_decide_eq_false c14;refine iH c14<|wp_skip<|ah<|wp_seq<|cZ rfl<|gy 5 rfl<|gZ (.slice A4 d0.stack.length c4) rfl (bV (aj B7 (i:=5) rfl))<|dF (.int .i64 tK) ?_;obtain ⟨GI,e16,hm⟩:=bnd hm;refine RQ.call rfl (qV rfl rfl) (by kernel_rfl) (v:=.int .i64 GI) (bel (K:=fun _=>True) fun w' hb'=>(abz d0.stack tK _ e16 _ w' (eY kF h4 r4 (Tt T hb'))))<|aW (.int .i64 GI)<|RQ.nil ?_;intro w17 PN;have B7:=aX B7 PN;have T:=Tt T PN;refine ah<|wp_seq<|wp_seq<|au rfl<|dF (.int .i64 GI)<|iq (.bool (decide (GI < 0)))<|RQ.nil<|ah ?_;rcases aB (decide (GI < 0)) with c19|c19
   ·replace hm:=cF c19 hm;have aAY:=of_decide_eq_false c19;refine iH c19<|wp_skip<|ah<|wp_seq<|cZ rfl<|gy 6 rfl<|gZ (.slice A5 d0.heap.length c5) rfl (bV (aj B7 (i:=6) rfl))<|dF (.int .i64 GI) ?_;obtain ⟨y20,e21,hm⟩:=bnd hm;refine RQ.call rfl (qV rfl rfl) (by kernel_rfl) (v:=.int .i64 y20) (bel (K:=fun _=>True) fun w' hb'=>(abA d0.heap GI _ e21 _ w' (eY nN h5 r5 (Tt T hb'))))<|aW (.int .i64 y20)<|RQ.nil ?_;intro MO LU;have T:=Tt T LU;refine ah<|wp_seq<|wp_seq<|au rfl<|dF (.int .i64 y20)<|iq (.bool (decide (y20 < 0)))<|RQ.nil<|ah ?_;rcases aB (decide (y20 < 0)) with c24|c24
    ·replace hm:=cF c24 hm;have pc24:=of_decide_eq_false c24;refine iH c24<|wp_skip<|ah<|wp_seq<|au rfl<|dF (.int .i64 y20)<|aW (.int .i64 y20)<|RQ.nil<|ah<|wp_ret ?_
     cases hm
     exact (aV rfl rfl rfl ⟨rfl,T⟩)
    replace hm:=cT c24 hm;have pc24:=of_decide_eq_true c24;refine ig c24<|wp_seq<|au rfl<|aW (.int .i64 (-1))<|RQ.nil<|ah<|wp_ret ?_
    cases hm
    exact (aF (aV rfl rfl rfl ⟨rfl,T⟩))
   replace hm:=cT c19 hm;have aAY:=of_decide_eq_true c19;refine ig c19<|wp_seq<|au rfl<|aW (.int .i64 (-1))<|RQ.nil<|ah<|wp_ret ?_
   cases hm
   exact (aF (aV rfl rfl rfl ⟨rfl,T⟩))
  replace hm:=cT c14 hm;have atb:=of_decide_eq_true c14;refine ig c14<|wp_seq<|au rfl<|aW (.int .i64 (-1))<|RQ.nil<|ah<|wp_ret ?_
  cases hm
  exact (aF (aV rfl rfl rfl ⟨rfl,T⟩))
noncomputable def sG:Option Bool:=
  some true
noncomputable def wW (d0:List Int) (d1:List Int) (eU:Int→Option Bool) (K1:Option Bool) (i3:Int):Option Bool:=
  (bif (decide (i3 < (d0.length:Int))) then ((fC d0 i3).bind fun x6=>((fC d1 i3).bind fun x15=>(bif (x6 != x15) then some false else (eU (i3+1))))) else (K1))
noncomputable def kM (d0:List Int) (d1:List Int) (K1:Option Bool):Nat→Int→Option Bool
  |0,_=>none
  |g+1,i3=>wW d0 d1 (kM d0 d1 K1 g) K1 i3
noncomputable def uV (d0:List Int) (d1:List Int):Option Bool:=
  (bif ((d0.length:Int) != (d1.length:Int)) then some false else (kM d0 d1 sG (d0.length+1) 0))
set_option maxHeartbeats 2000000 in
theorem H8 (d0:List Int) (d1:List Int) (r:Bool) (hm:uV d0 d1=some r) (v0:Value) (v1:Value) (w:World) (hv0:Sl nR 1 w v0 d0) (hv1:Sl nR 1 w v1 d1) :
    Calls Tryz.prog 67 #[v0,v1] w fun e w'=>e=.returned (.bool r)∧Below w.heap.size w w':=by
  obtain ⟨Bc,na0,ca0,rfl,ha0,GN⟩:=hv0;obtain ⟨rfl,qa0⟩:=bI ha0 GN;obtain ⟨Aa1,na1,ca1,rfl,ha1,ra1⟩:=hv1;obtain ⟨rfl,qa1⟩:=bI ha1 ra1;have T:=Below.refl w.heap.size w;unfold uV at hm;refine enter 26 Tryz.func67 rfl rfl rfl ?_;intro f hf;have s0:f 0=.slice Bc d0.length ca0:=hf 0 _ rfl;have s1:f 1=.slice Aa1 d1.length ca1:=hf 1 _ rfl;refine wp_seq<|au rfl<|aW (.bool false)<|RQ.nil<|ah<|wp_seq<|wp_seq<|au rfl<|aT s0<|yH rfl<|aT s1<|yH rfl<|iq (.bool ((d0.length:Int) != (d1.length:Int)))<|RQ.nil<|ah ?_;rcases aB ((d0.length:Int) != (d1.length:Int)) with c1|c1
  ·replace hm:=cF c1 hm;refine iH c1<|wp_skip<|ah<|wp_seq<|wp_seq<|au rfl<|aW (.int .i64 0)<|RQ.nil<|ah<|wp_block ?_;obtain ⟨K1,hK1,hm⟩ :∃K,K=sG∧kM d0 d1 K (d0.length+1) 0=some r:=⟨_,rfl,hm⟩;refine dG (fun g f w'=>∃(i3:Int),f 0=.slice Bc d0.length ca0∧f 1=.slice Aa1 d1.length ca1∧f 5=.int .i64 i3∧0≤i3∧Below w.heap.size w w'∧kM d0 d1 K1 g i3=some r) 0 (fun f w'=>Below w.heap.size w w'∧sG  = some r) (d0.length+1) ⟨0,s0,s1,rfl,(by omega),T,hm⟩ ?_ ?_
   ·rintro f w2 ⟨T,hm⟩;unfold sG at hm;refine dW (ah ?_);refine wp_seq<|au rfl<|aW (.bool true)<|RQ.nil<|ah<|wp_ret ?_
    cases hm
    exact (aV rfl rfl rfl ⟨rfl,T⟩)
   rintro g f w4 ⟨i3,dQ,iF,jD,P6,T,hm⟩;rcases g with _|g
   ·simp only [kM] at hm; cases hm
   obtain ⟨eU,d_,hm⟩ :∃z,z=kM d0 d1 K1 g∧wW d0 d1 z K1 i3=some r:=⟨_,rfl,hm⟩;unfold wW at hm;refine wp_seq<|wp_seq<|au rfl<|aT jD<|aT dQ<|yH rfl<|iq (.bool (decide (i3 < (d0.length:Int))))<|RQ.nil<|ah ?_;rcases aB (decide (i3 < (d0.length:Int))) with c5|c5
   ·replace hm:=cF c5 hm;have pc5:=of_decide_eq_false c5;refine iH c5<|wp_exit ?_;exact (bQ (bQ (iW ⟨_,rfl,⟨T,(by rw [hK1] at hm; exact hm)⟩⟩)))
   replace hm:=cT c5 hm;have pc5:=of_decide_eq_true c5;refine ig c5<|wp_skip<|ah<|wp_seq<|wp_block<|wp_seq<|FC (by kernel_rfl) (by kernel_rfl)<|aT dQ<|aT jD ?_;obtain ⟨x6,hx9,hm⟩:=bnd hm;obtain ⟨k7,hk10,adO,hx9⟩:=aU hx9;obtain ⟨b13,o14,rfl,aml⟩:=ha0.addr (by omega);obtain ⟨cs8,Gv,hc12⟩:=ha0.el hx9;have amm:=Gv;obtain rfl:=Gv;refine RQ.y rfl (Y.indexAddr (m:=k7) (sz:=1) rfl rfl hk10 adO (by kernel_rfl))<|gZ (.int .i64 x6) rfl (bV (cellT T (hc12 0 _ rfl)))<|aT iF<|aT jD ?_;obtain ⟨x15,aar,hm⟩:=bnd hm;obtain ⟨k16,asT,asU,aar⟩:=aU aar;obtain ⟨b22,o23,rfl,aAj⟩:=ha1.addr (by omega);obtain ⟨aKv,NJ,hc21⟩:=ha1.el aar;have asV:=NJ;obtain rfl:=NJ;refine RQ.y rfl (Y.indexAddr (m:=k16) (sz:=1) rfl rfl asT asU (by kernel_rfl))<|gZ (.int .i64 x15) rfl (bV (cellT T (hc21 0 _ rfl)))<|iq (.bool (x6 != x15))<|RQ.nil ?_;intro w24 PI;have afl:=PI.size;have T:=Tt T PI;refine ah ?_;rcases aB (x6 != x15) with Jj|Jj
   ·replace hm:=cF Jj hm;refine iH Jj<|wp_skip ?_;refine eF (ah ?_);refine au rfl<|aT jD<|RQ.y rfl (Y.dS rfl rfl (bn (m:=i3) (by omega)))<|aW (.int .i64 (i3+1))<|RQ.nil ?_;exact (ah ⟨g,_,Nat.lt_succ_self _,rfl,⟨(i3+1),dQ,iF,rfl,(by omega),T,(by rw [← d_]; exact hm)⟩⟩)
   replace hm:=cT Jj hm;refine ig Jj<|wp_seq<|au rfl<|aW (.bool false)<|RQ.nil<|ah<|wp_ret ?_
   cases hm
   exact (bC (aF (aF (jG (bC (aF (aV rfl rfl rfl ⟨rfl,T⟩)))))))
  replace hm:=cT c1 hm;refine ig c1<|wp_seq<|au rfl<|aW (.bool false)<|RQ.nil<|ah<|wp_ret ?_
  cases hm
  exact (aF (aV rfl rfl rfl ⟨rfl,T⟩))
noncomputable def uJ:Option Bool:=
  some true
noncomputable def zu (iZ:ak→ak→Option Bool) (d0:List ak) (d1:List ak) (eU:Int→Option Bool) (K1:Option Bool) (i3:Int):Option Bool:=
  (bif (decide (i3 < (d0.length:Int))) then ((fC d0 i3).bind fun x6=>((fC d1 i3).bind fun x17=>((iZ x6 x17).bind fun y28=>(bif y28 then (eU (i3+1)) else some false)))) else (K1))
noncomputable def lY (iZ:ak→ak→Option Bool) (d0:List ak) (d1:List ak) (K1:Option Bool):Nat→Int→Option Bool
  |0,_=>none
  |g+1,i3=>zu iZ d0 d1 (lY iZ d0 d1 K1 g) K1 i3
noncomputable def AO (nM:(List ak)→(List ak)→Option Bool) (iZ:ak→ak→Option Bool) (d0:List ak) (d1:List ak):Option Bool:=
  (bif ((d0.length:Int) != (d1.length:Int)) then some false else (lY iZ d0 d1 uJ (d0.length+1) 0))
set_option maxHeartbeats 2000000 in
theorem aaG (nM:(List ak)→(List ak)→Option Bool) (iZ:ak→ak→Option Bool) (ih0 :∀(d0:List ak) (d1:List ak) (r:Bool) (hm:nM d0 d1=some r) (v0:Value) (v1:Value) (w:World) (hv0:Sl bf 4 w v0 d0) (hv1:Sl bf 4 w v1 d1),Calls Tryz.prog 33 #[v0,v1] w fun e w'=>e=.returned (.bool r)∧Below w.heap.size w w') (ih1 :∀(d0:ak) (d1:ak) (r:Bool) (hm:iZ d0 d1=some r) (v0:Value) (v1:Value) (w:World) (hv0:St bf w v0 d0) (hv1:St bf w v1 d1),Calls Tryz.prog 66 #[v0,v1] w fun e w'=>e=.returned (.bool r)∧Below w.heap.size w w') :∀(d0:List ak) (d1:List ak) (r:Bool) (hm:AO nM iZ d0 d1=some r) (v0:Value) (v1:Value) (w:World) (hv0:Sl bf 4 w v0 d0) (hv1:Sl bf 4 w v1 d1),
    Calls Tryz.prog 33 #[v0,v1] w fun e w'=>e=.returned (.bool r)∧Below w.heap.size w w':=by
  intro d0 d1 r hm v0 v1 w hv0 hv1;obtain ⟨Bc,na0,ca0,rfl,ha0,GN⟩:=hv0;obtain ⟨rfl,qa0⟩:=bI ha0 GN;obtain ⟨Aa1,na1,ca1,rfl,ha1,ra1⟩:=hv1;obtain ⟨rfl,qa1⟩:=bI ha1 ra1;have T:=Below.refl w.heap.size w;unfold AO at hm;refine enter 27 Tryz.func33 rfl rfl rfl ?_;intro f hf;have s0:f 0=.slice Bc d0.length ca0:=hf 0 _ rfl;have s1:f 1=.slice Aa1 d1.length ca1:=hf 1 _ rfl;refine wp_seq<|au rfl<|aW (.bool false)<|RQ.nil<|ah<|wp_seq<|wp_seq<|au rfl<|aT s0<|yH rfl<|aT s1<|yH rfl<|iq (.bool ((d0.length:Int) != (d1.length:Int)))<|RQ.nil<|ah ?_;rcases aB ((d0.length:Int) != (d1.length:Int)) with c1|c1
  ·replace hm:=cF c1 hm;refine iH c1<|wp_skip<|ah<|wp_seq<|wp_seq<|au rfl<|aW (.int .i64 0)<|RQ.nil<|ah<|wp_block ?_;obtain ⟨K1,hK1,hm⟩ :∃K,K=uJ∧lY iZ d0 d1 K (d0.length+1) 0=some r:=⟨_,rfl,hm⟩;refine dG (fun g f w'=>∃(i3:Int),f 0=.slice Bc d0.length ca0∧f 1=.slice Aa1 d1.length ca1∧f 5=.int .i64 i3∧0≤i3∧Below w.heap.size w w'∧lY iZ d0 d1 K1 g i3=some r) 0 (fun f w'=>Below w.heap.size w w'∧uJ  = some r) (d0.length+1) ⟨0,s0,s1,rfl,(by omega),T,hm⟩ ?_ ?_
   ·rintro f w2 ⟨T,hm⟩;unfold uJ at hm;refine dW (ah ?_);refine wp_seq<|au rfl<|aW (.bool true)<|RQ.nil<|ah<|wp_ret ?_
    cases hm
    exact (aV rfl rfl rfl ⟨rfl,T⟩)
   rintro g f w4 ⟨i3,dQ,iF,jD,P6,T,hm⟩;rcases g with _|g
   ·simp only [lY] at hm; cases hm
   obtain ⟨eU,d_,hm⟩ :∃z,z=lY iZ d0 d1 K1 g∧zu iZ d0 d1 z K1 i3=some r:=⟨_,rfl,hm⟩;unfold zu at hm;refine wp_seq<|wp_seq<|au rfl<|aT jD<|aT dQ<|yH rfl<|iq (.bool (decide (i3 < (d0.length:Int))))<|RQ.nil<|ah ?_;rcases aB (decide (i3 < (d0.length:Int))) with c5|c5
   ·replace hm:=cF c5 hm;have pc5:=of_decide_eq_false c5;refine iH c5<|wp_exit ?_;exact (bQ (bQ (iW ⟨_,rfl,⟨T,(by rw [hK1] at hm; exact hm)⟩⟩)))
   replace hm:=cT c5 hm;have pc5:=of_decide_eq_true c5;refine ig c5<|wp_skip<|ah<|wp_seq<|wp_block<|wp_seq<|FC (by kernel_rfl) (by kernel_rfl)<|aT dQ<|aT jD ?_;obtain ⟨x6,hx9,hm⟩:=bnd hm;obtain ⟨k7,hk10,adO,hx9⟩:=aU hx9;obtain ⟨b13,o14,rfl,aml⟩:=ha0.addr (by omega);obtain ⟨cs8,Gv,hc12⟩:=ha0.el hx9;have amm:=Gv;obtain ⟨A15,n15,c15,A16,n16,c16,rfl,⟨h15,r15⟩,⟨h16,r16⟩⟩:=(bG Gv);obtain ⟨rfl,q15⟩:=bI h15 r15;obtain ⟨rfl,q16⟩:=bI h16 r16;refine RQ.y rfl (Y.indexAddr (m:=k7) (sz:=4) rfl rfl hk10 adO (by kernel_rfl))<|LC [.int .i64 x6.kind,.int .i64 x6.value,.slice A15 x6.data.length c15,.slice A16 x6.kids.length c16] rfl (cells4 (bV (cellT T (hc12 0 _ rfl))) (bV (cellT T (hc12 1 _ rfl))) (bV (cellT T (hc12 2 _ rfl))) (bV (cellT T (hc12 3 _ rfl))))<|aT iF<|aT jD ?_;obtain ⟨x17,aLS,hm⟩:=bnd hm;obtain ⟨k18,aZr,aZs,aLS⟩:=aU aLS;obtain ⟨b24,o25,rfl,a9w⟩:=ha1.addr (by omega);obtain ⟨bbl,aBz,aGX⟩:=ha1.el aLS;have aZt:=aBz;obtain ⟨A26,n26,Jj,A27,n27,Vx,rfl,⟨h26,r26⟩,⟨h27,r27⟩⟩:=(bG aBz);obtain ⟨rfl,q26⟩:=bI h26 r26;obtain ⟨rfl,q27⟩:=bI h27 r27;refine RQ.y rfl (Y.indexAddr (m:=k18) (sz:=4) rfl rfl aZr aZs (by kernel_rfl))<|LC [.int .i64 x17.kind,.int .i64 x17.value,.slice A26 x17.data.length Jj,.slice A27 x17.kids.length Vx] rfl (cells4 (bV (cellT T (aGX 0 _ rfl))) (bV (cellT T (aGX 1 _ rfl))) (bV (cellT T (aGX 2 _ rfl))) (bV (cellT T (aGX 3 _ rfl)))) ?_;obtain ⟨y28,e29,hm⟩:=bnd hm;refine RQ.call rfl (qV rfl rfl) (by kernel_rfl) (v:=.bool y28) (bel (K:=fun _=>True) fun w' hb'=>(ih1 x6 x17 _ e29 _ _ w' (fE (R:=bf) (dR ⟨_,_,_,_,_,_,rfl,⟨aY.now aG h15 (dB) (Tt T hb'),r15⟩,⟨aY.now aK h16 (dB) (Tt T hb'),r16⟩⟩)) (fE (R:=bf) (dR ⟨_,_,_,_,_,_,rfl,⟨aY.now aG h26 (dB) (Tt T hb'),r26⟩,⟨aY.now aK h27 (dB) (Tt T hb'),r27⟩⟩))))<|RQ.y rfl (Y.not (b':=(!y28)) rfl rfl)<|RQ.nil ?_;intro w30 KY;have ahm:=KY.size;have T:=Tt T KY;refine ah ?_;rcases aB y28 with c32|c32
   ·replace hm:=cF c32 hm;refine dX rfl (gQ rfl c32 rfl)<|wp_seq<|au rfl<|aW (.bool false)<|RQ.nil<|ah<|wp_ret ?_
    cases hm
    exact (bC (aF (aF (jG (bC (aF (aV rfl rfl rfl ⟨rfl,T⟩)))))))
   replace hm:=cT c32 hm;refine gU rfl (gQ rfl c32 rfl)<|wp_skip ?_;refine eF (ah ?_);refine au rfl<|aT jD<|RQ.y rfl (Y.dS rfl rfl (bn (m:=i3) (by omega)))<|aW (.int .i64 (i3+1))<|RQ.nil ?_;exact (ah ⟨g,_,Nat.lt_succ_self _,rfl,⟨(i3+1),dQ,iF,rfl,(by omega),T,(by rw [← d_]; exact hm)⟩⟩)
  replace hm:=cT c1 hm;refine ig c1<|wp_seq<|au rfl<|aW (.bool false)<|RQ.nil<|ah<|wp_ret ?_
  cases hm
  exact (aF (aV rfl rfl rfl ⟨rfl,T⟩))
noncomputable def Ce (nM:(List ak)→(List ak)→Option Bool) (iZ:ak→ak→Option Bool) (d0:ak) (d1:ak):Option Bool:=
  (bif (d0.kind != d1.kind) then some false else (bif (d0.value != d1.value) then some false else ((uV d0.data d1.data).bind fun GI=>(bif GI then ((nM d0.kids d1.kids).bind fun y20=>(bif y20 then some true else some false)) else some false))))
set_option maxHeartbeats 2000000 in
theorem abB (nM:(List ak)→(List ak)→Option Bool) (iZ:ak→ak→Option Bool) (ih0 :∀(d0:List ak) (d1:List ak) (r:Bool) (hm:nM d0 d1=some r) (v0:Value) (v1:Value) (w:World) (hv0:Sl bf 4 w v0 d0) (hv1:Sl bf 4 w v1 d1),Calls Tryz.prog 33 #[v0,v1] w fun e w'=>e=.returned (.bool r)∧Below w.heap.size w w') (ih1 :∀(d0:ak) (d1:ak) (r:Bool) (hm:iZ d0 d1=some r) (v0:Value) (v1:Value) (w:World) (hv0:St bf w v0 d0) (hv1:St bf w v1 d1),Calls Tryz.prog 66 #[v0,v1] w fun e w'=>e=.returned (.bool r)∧Below w.heap.size w w') :∀(d0:ak) (d1:ak) (r:Bool) (hm:Ce nM iZ d0 d1=some r) (v0:Value) (v1:Value) (w:World) (hv0:St bf w v0 d0) (hv1:St bf w v1 d1),
    Calls Tryz.prog 66 #[v0,v1] w fun e w'=>e=.returned (.bool r)∧Below w.heap.size w w':=by
  intro d0 d1 r hm v0 v1 w hv0 hv1;obtain ⟨lg,rfl,hRR0⟩:=hv0;obtain ⟨A1,n1,c1,A2,n2,c2,rfl,⟨h1,r1⟩,⟨h2,r2⟩⟩:=(bG hRR0);obtain ⟨rfl,q1⟩:=bI h1 r1;obtain ⟨rfl,q2⟩:=bI h2 r2;obtain ⟨SG,rfl,aLi⟩:=hv1;obtain ⟨A3,n3,c3,A4,n4,c4,rfl,⟨h3,r3⟩,⟨h4,r4⟩⟩:=(bG aLi);obtain ⟨rfl,q3⟩:=bI h3 r3;obtain ⟨rfl,q4⟩:=bI h4 r4;have T:=Below.refl w.heap.size w;unfold Ce at hm;refine enter 27 Tryz.func66 rfl rfl rfl ?_;intro f hf;have s0:f 0=.agg #[.int .i64 d0.kind,.int .i64 d0.value,.slice A1 d0.data.length c1,.slice A2 d0.kids.length c2]:=hf 0 _ rfl;have s1:f 1=.agg #[.int .i64 d1.kind,.int .i64 d1.value,.slice A3 d1.data.length c3,.slice A4 d1.kids.length c4]:=hf 1 _ rfl;refine wp_seq<|bF rfl ?_;refine RL.box rfl s0 (fun w5 B6 hb7 aAn=>?_);replace B6:dD w5 w.heap.size 38 #[.int .i64 d0.kind,.int .i64 d0.value,.slice A1 d0.data.length c1,.slice A2 d0.kids.length c2]:=B6;have GB6:w.heap.size≤w.heap.size:=T.size;have T:=Tt T hb7;refine RL.box rfl s1 (fun w9 B10 Bo axA=>?_);replace B10:dD w9 w5.heap.size 38 #[.int .i64 d1.kind,.int .i64 d1.value,.slice A3 d1.data.length c3,.slice A4 d1.kids.length c4]:=B10;have aLj:w.heap.size≤w5.heap.size:=T.size;have amq:=Nat.ne_of_lt B6.lt;have B6:=aX B6 Bo;have T:=Tt T Bo;refine Ez (.bool false)<|RL.nil<|ah<|wp_seq<|wp_seq<|au rfl<|gy 0 rfl<|gZ (.int .i64 d0.kind) rfl (cu (aj B6 (i:=0) rfl))<|gy 0 rfl<|gZ (.int .i64 d1.kind) rfl (cu (aj B10 (i:=0) rfl))<|iq (.bool (d0.kind != d1.kind))<|RQ.nil<|ah ?_;rcases aB (d0.kind != d1.kind) with c13|c13
  ·replace hm:=cF c13 hm;refine iH c13<|wp_skip<|ah<|wp_seq<|wp_seq<|au rfl<|gy 1 rfl<|gZ (.int .i64 d0.value) rfl (cu (aj B6 (i:=1) rfl))<|gy 1 rfl<|gZ (.int .i64 d1.value) rfl (cu (aj B10 (i:=1) rfl))<|iq (.bool (d0.value != d1.value))<|RQ.nil<|ah ?_;rcases aB (d0.value != d1.value) with c14|c14
   ·replace hm:=cF c14 hm;refine iH c14<|wp_skip<|ah<|wp_seq<|wp_seq<|cZ rfl<|gy 2 rfl<|gZ (.slice A1 d0.data.length c1) rfl (bV (aj B6 (i:=2) rfl))<|gy 2 rfl<|gZ (.slice A3 d1.data.length c3) rfl (bV (aj B10 (i:=2) rfl)) ?_;obtain ⟨GI,e16,hm⟩:=bnd hm;refine RQ.call rfl (qV rfl rfl) (by kernel_rfl) (v:=.bool GI) (bel (K:=fun _=>True) fun w' hb'=>(H8 d0.data d1.data _ e16 _ _ w' (eY aG h1 r1 (Tt T hb')) (eY aG h3 r3 (Tt T hb'))))<|RQ.y rfl (Y.not (b':=(!GI)) rfl rfl)<|RQ.nil ?_;intro w17 PN;have B6:=aX B6 PN;have B10:=aX B10 PN;have T:=Tt T PN;refine ah ?_;rcases aB GI with c19|c19
    ·replace hm:=cF c19 hm;refine dX rfl (gQ rfl c19 rfl)<|wp_seq<|au rfl<|aW (.bool false)<|RQ.nil<|ah<|wp_ret ?_
     cases hm
     exact (aF (aV rfl rfl rfl ⟨rfl,T⟩))
    replace hm:=cT c19 hm;refine gU rfl (gQ rfl c19 rfl)<|wp_skip<|ah<|wp_seq<|wp_seq<|cZ rfl<|gy 3 rfl<|gZ (.slice A2 d0.kids.length c2) rfl (bV (aj B6 (i:=3) rfl))<|gy 3 rfl<|gZ (.slice A4 d1.kids.length c4) rfl (bV (aj B10 (i:=3) rfl)) ?_;obtain ⟨y20,e21,hm⟩:=bnd hm;refine RQ.call rfl (qV rfl rfl) (by kernel_rfl) (v:=.bool y20) (bel (K:=fun _=>True) fun w' hb'=>(ih0 d0.kids d1.kids _ e21 _ _ w' (eY aK h2 r2 (Tt T hb')) (eY aK h4 r4 (Tt T hb'))))<|RQ.y rfl (Y.not (b':=(!y20)) rfl rfl)<|RQ.nil ?_;intro MO LU;have T:=Tt T LU;refine ah ?_;rcases aB y20 with c24|c24
    ·replace hm:=cF c24 hm;refine dX rfl (gQ rfl c24 rfl)<|wp_seq<|au rfl<|aW (.bool false)<|RQ.nil<|ah<|wp_ret ?_
     cases hm
     exact (aF (aV rfl rfl rfl ⟨rfl,T⟩))
    replace hm:=cT c24 hm;refine gU rfl (gQ rfl c24 rfl)<|wp_skip<|ah<|wp_seq<|au rfl<|aW (.bool true)<|RQ.nil<|ah<|wp_ret ?_
    cases hm
    exact (aV rfl rfl rfl ⟨rfl,T⟩)
   replace hm:=cT c14 hm;refine ig c14<|wp_seq<|au rfl<|aW (.bool false)<|RQ.nil<|ah<|wp_ret ?_
   cases hm
   exact (aF (aV rfl rfl rfl ⟨rfl,T⟩))
  replace hm:=cT c13 hm;refine ig c13<|wp_seq<|au rfl<|aW (.bool false)<|RQ.nil<|ah<|wp_ret ?_
  cases hm
  exact (aF (aV rfl rfl rfl ⟨rfl,T⟩))
noncomputable def wz:Nat→((List ak)→(List ak)→Option Bool) × (ak→ak→Option Bool)
 |0=>(fun _ _=>none,fun _ _=>none)
 |dJ+1=>(AO (wz dJ).1 (wz dJ).2,Ce (wz dJ).1 (wz dJ).2)
noncomputable def wX (dJ:Nat):(List ak)→(List ak)→Option Bool:=(wz dJ).1
noncomputable def sZ (dJ:Nat):ak→ak→Option Bool:=(wz dJ).2
theorem N9 :∀dJ:Nat,(∀(d0:List ak) (d1:List ak) (r:Bool) (hm:wX dJ d0 d1=some r) (v0:Value) (v1:Value) (w:World) (hv0:Sl bf 4 w v0 d0) (hv1:Sl bf 4 w v1 d1),Calls Tryz.prog 33 #[v0,v1] w fun e w'=>e=.returned (.bool r)∧Below w.heap.size w w')∧(∀(d0:ak) (d1:ak) (r:Bool) (hm:sZ dJ d0 d1=some r) (v0:Value) (v1:Value) (w:World) (hv0:St bf w v0 d0) (hv1:St bf w v1 d1),Calls Tryz.prog 66 #[v0,v1] w fun e w'=>e=.returned (.bool r)∧Below w.heap.size w w'):=by
 intro dJ
 induction dJ with
 |zero=>exact ⟨(fun _ _ r hm=>by have h0:(none:Option _)=some r:=hm; cases h0),(fun _ _ r hm=>by have h0:(none:Option _)=some r:=hm; cases h0)⟩
 |succ dJ ih=>exact ⟨aaG _ _ (ih).1 (ih).2,abB _ _ (ih).1 (ih).2⟩
theorem ad8 (dJ : Nat) : ∀ (d0 : List ak) (d1 : List ak) (r : Bool) (hm : wX dJ d0 d1 = some r) (v0 : Value) (v1 : Value) (w : World) (hv0 : Sl bf 4 w v0 d0) (hv1 : Sl bf 4 w v1 d1), Calls Tryz.prog 33 #[v0, v1] w fun e w' => e = .returned (.bool r) ∧ Below w.heap.size w w' := (N9 dJ).1
theorem af8 (dJ : Nat) : ∀ (d0 : ak) (d1 : ak) (r : Bool) (hm : sZ dJ d0 d1 = some r) (v0 : Value) (v1 : Value) (w : World) (hv0 : St bf w v0 d0) (hv1 : St bf w v1 d1), Calls Tryz.prog 66 #[v0, v1] w fun e w' => e = .returned (.bool r) ∧ Below w.heap.size w w' := (N9 dJ).2
noncomputable def JW (d0:dY) (d1:dY):Option Bool:=
  ((wX (SizeOf.sizeOf d0.defs) d0.defs d1.defs).bind fun y11=>(bif y11 then some true else some false))
set_option maxHeartbeats 2000000 in
theorem af9 (d0:dY) (d1:dY) (r:Bool) (hm:JW d0 d1=some r) (v0:Value) (v1:Value) (w:World) (hv0:St iI w v0 d0) (hv1:St iI w v1 d1) :
    Calls Tryz.prog 11 #[v0,v1] w fun e w'=>e=.returned (.bool r)∧Below w.heap.size w w':=by
  obtain ⟨lg,rfl,⟨A1,n1,c1,rfl,⟨h1,r1⟩⟩⟩:=hv0;obtain ⟨rfl,q1⟩:=bI h1 r1;obtain ⟨SG,rfl,⟨A2,n2,c2,rfl,⟨h2,r2⟩⟩⟩:=hv1;obtain ⟨rfl,q2⟩:=bI h2 r2;have T:=Below.refl w.heap.size w;unfold JW at hm;refine enter 11 Tryz.func11 rfl rfl rfl ?_;intro f hf;have s0:f 0=.agg #[.slice A1 d0.defs.length c1]:=hf 0 _ rfl;have s1:f 1=.agg #[.slice A2 d1.defs.length c2]:=hf 1 _ rfl;refine wp_seq<|bF rfl ?_;refine RL.box rfl s0 (fun w3 B4 hb5 LP=>?_);replace B4:dD w3 w.heap.size 48 #[.slice A1 d0.defs.length c1]:=B4;have GB4:w.heap.size≤w.heap.size:=T.size;have T:=Tt T hb5;refine RL.box rfl s1 (fun w7 B8 Zc aj_=>?_);replace B8:dD w7 w3.heap.size 48 #[.slice A2 d1.defs.length c2]:=B8;have GB8:w.heap.size≤w3.heap.size:=T.size;have YL:=Nat.ne_of_lt B4.lt;have B4:=aX B4 Zc;have T:=Tt T Zc;refine Ez (.bool false)<|RL.nil<|ah<|wp_seq<|wp_seq<|cZ rfl<|gy 0 rfl<|gZ (.slice A1 d0.defs.length c1) rfl (bV (aj B4 (i:=0) rfl))<|gy 0 rfl<|gZ (.slice A2 d1.defs.length c2) rfl (bV (aj B8 (i:=0) rfl)) ?_;obtain ⟨y11,e12,hm⟩:=bnd hm;refine RQ.call rfl (qV rfl rfl) (by kernel_rfl) (v:=.bool y11) (bel (K:=fun _=>True) fun w' hb'=>(ad8 (SizeOf.sizeOf d0.defs) d0.defs d1.defs _ e12 _ _ w' (eY aK h1 r1 (Tt T hb')) (eY aK h2 r2 (Tt T hb'))))<|RQ.y rfl (Y.not (b':=(!y11)) rfl rfl)<|RQ.nil ?_;intro w13 LQ;have T:=Tt T LQ;refine ah ?_;rcases aB y11 with c15|c15
  ·replace hm:=cF c15 hm;refine dX rfl (gQ rfl c15 rfl)<|wp_seq<|au rfl<|aW (.bool false)<|RQ.nil<|ah<|wp_ret ?_
   cases hm
   exact (aF (aV rfl rfl rfl ⟨rfl,T⟩))
  replace hm:=cT c15 hm;refine gU rfl (gQ rfl c15 rfl)<|wp_skip<|ah<|wp_seq<|au rfl<|aW (.bool true)<|RQ.nil<|ah<|wp_ret ?_
  cases hm
  exact (aV rfl rfl rfl ⟨rfl,T⟩)
noncomputable def sH (d0:ay) (d1:ay):Option Bool:=
  ((sZ (SizeOf.sizeOf (⟨d0.term.kind,d0.term.value,d0.term.data,d0.term.kids⟩:ak)) (⟨d0.term.kind,d0.term.value,d0.term.data,d0.term.kids⟩:ak) (⟨d1.term.kind,d1.term.value,d1.term.data,d1.term.kids⟩:ak)).bind fun GI=>(bif GI then ((uV d0.env d1.env).bind fun y20=>(bif y20 then some true else some false)) else some false))
set_option maxHeartbeats 2000000 in
theorem FM (d0:ay) (d1:ay) (r:Bool) (hm:sH d0 d1=some r) (v0:Value) (v1:Value) (w:World) (hv0:St dM w v0 d0) (hv1:St dM w v1 d1) :
    Calls Tryz.prog 30 #[v0,v1] w fun e w'=>e=.returned (.bool r)∧Below w.heap.size w w':=by
  obtain ⟨lg,rfl,⟨A1,n1,c1,A2,n2,c2,A3,n3,c3,rfl,⟨h1,r1⟩,⟨h2,r2⟩,⟨h3,r3⟩⟩⟩:=hv0;obtain ⟨rfl,q1⟩:=bI h1 r1;obtain ⟨rfl,q2⟩:=bI h2 r2;obtain ⟨rfl,q3⟩:=bI h3 r3;obtain ⟨SG,rfl,⟨A4,n4,c4,A5,n5,c5,A6,n6,c6,rfl,⟨h4,r4⟩,⟨h5,r5⟩,⟨h6,r6⟩⟩⟩:=hv1;obtain ⟨rfl,q4⟩:=bI h4 r4;obtain ⟨rfl,q5⟩:=bI h5 r5;obtain ⟨rfl,q6⟩:=bI h6 r6;have T:=Below.refl w.heap.size w;unfold sH at hm;refine enter 17 Tryz.func30 rfl rfl rfl ?_;intro f hf;have s0:f 0=.agg #[.int .i64 d0.term.kind,.int .i64 d0.term.value,.slice A1 d0.term.data.length c1,.slice A2 d0.term.kids.length c2,.slice A3 d0.env.length c3]:=hf 0 _ rfl;have s1:f 1=.agg #[.int .i64 d1.term.kind,.int .i64 d1.term.value,.slice A4 d1.term.data.length c4,.slice A5 d1.term.kids.length c5,.slice A6 d1.env.length c6]:=hf 1 _ rfl;refine wp_seq<|bF rfl ?_;refine RL.box rfl s0 (fun w7 B8 Zc aj_=>?_);replace B8:dD w7 w.heap.size 40 #[.int .i64 d0.term.kind,.int .i64 d0.term.value,.slice A1 d0.term.data.length c1,.slice A2 d0.term.kids.length c2,.slice A3 d0.env.length c3]:=B8;have GB8:w.heap.size≤w.heap.size:=T.size;have T:=Tt T Zc;refine RL.box rfl s1 (fun uS gY Ad WV=>?_);replace gY:dD uS w7.heap.size 40 #[.int .i64 d1.term.kind,.int .i64 d1.term.value,.slice A4 d1.term.data.length c4,.slice A5 d1.term.kids.length c5,.slice A6 d1.env.length c6]:=gY;have ap_:w.heap.size≤w7.heap.size:=T.size;have z_:=Nat.ne_of_lt B8.lt;have B8:=aX B8 Ad;have T:=Tt T Ad;refine Ez (.bool false)<|RL.nil<|ah<|wp_seq<|wp_seq<|cZ rfl<|gy 0 rfl<|LC [.int .i64 d0.term.kind,.int .i64 d0.term.value,.slice A1 d0.term.data.length c1,.slice A2 d0.term.kids.length c2] rfl (cells4 (bV (aj B8 (i:=0) rfl)) (bV (aj B8 (i:=1) rfl)) (bV (aj B8 (i:=2) rfl)) (bV (aj B8 (i:=3) rfl)))<|gy 0 rfl<|LC [.int .i64 d1.term.kind,.int .i64 d1.term.value,.slice A4 d1.term.data.length c4,.slice A5 d1.term.kids.length c5] rfl (cells4 (bV (aj gY (i:=0) rfl)) (bV (aj gY (i:=1) rfl)) (bV (aj gY (i:=2) rfl)) (bV (aj gY (i:=3) rfl))) ?_;obtain ⟨GI,e16,hm⟩:=bnd hm;refine RQ.call rfl (qV rfl rfl) (by kernel_rfl) (v:=.bool GI) (bel (K:=fun _=>True) fun w' hb'=>(af8 (SizeOf.sizeOf (⟨d0.term.kind,d0.term.value,d0.term.data,d0.term.kids⟩:ak)) (⟨d0.term.kind,d0.term.value,d0.term.data,d0.term.kids⟩:ak) (⟨d1.term.kind,d1.term.value,d1.term.data,d1.term.kids⟩:ak) _ e16 _ _ w' (fE (R:=bf) (dR ⟨_,_,_,_,_,_,rfl,⟨aY.now aG h1 (dB) (Tt T hb'),r1⟩,⟨aY.now aK h2 (dB) (Tt T hb'),r2⟩⟩)) (fE (R:=bf) (dR ⟨_,_,_,_,_,_,rfl,⟨aY.now aG h4 (dB) (Tt T hb'),r4⟩,⟨aY.now aK h5 (dB) (Tt T hb'),r5⟩⟩))))<|RQ.y rfl (Y.not (b':=(!GI)) rfl rfl)<|RQ.nil ?_
  intro w17 PN;have B8:=aX B8 PN;have gY:=aX gY PN;have T:=Tt T PN;refine ah ?_;rcases aB GI with c19|c19
  ·replace hm:=cF c19 hm;refine dX rfl (gQ rfl c19 rfl)<|wp_seq<|au rfl<|aW (.bool false)<|RQ.nil<|ah<|wp_ret ?_
   cases hm
   exact (aF (aV rfl rfl rfl ⟨rfl,T⟩))
  replace hm:=cT c19 hm;refine gU rfl (gQ rfl c19 rfl)<|wp_skip<|ah<|wp_seq<|wp_seq<|cZ rfl<|gy 4 rfl<|gZ (.slice A3 d0.env.length c3) rfl (bV (aj B8 (i:=4) rfl))<|gy 4 rfl<|gZ (.slice A6 d1.env.length c6) rfl (bV (aj gY (i:=4) rfl)) ?_;obtain ⟨y20,e21,hm⟩:=bnd hm;refine RQ.call rfl (qV rfl rfl) (by kernel_rfl) (v:=.bool y20) (bel (K:=fun _=>True) fun w' hb'=>(H8 d0.env d1.env _ e21 _ _ w' (eY aG h3 r3 (Tt T hb')) (eY aG h6 r6 (Tt T hb'))))<|RQ.y rfl (Y.not (b':=(!y20)) rfl rfl)<|RQ.nil ?_;intro MO LU;have T:=Tt T LU;refine ah ?_;rcases aB y20 with c24|c24
  ·replace hm:=cF c24 hm;refine dX rfl (gQ rfl c24 rfl)<|wp_seq<|au rfl<|aW (.bool false)<|RQ.nil<|ah<|wp_ret ?_
   cases hm
   exact (aF (aV rfl rfl rfl ⟨rfl,T⟩))
  replace hm:=cT c24 hm;refine gU rfl (gQ rfl c24 rfl)<|wp_skip<|ah<|wp_seq<|au rfl<|aW (.bool true)<|RQ.nil<|ah<|wp_ret ?_
  cases hm
  exact (aV rfl rfl rfl ⟨rfl,T⟩)
noncomputable def AP (d0:aO) (d1:aO):Option Bool:=
  (bif (d0.kind != d1.kind) then some false else (bif (d0.value != d1.value) then some false else ((uV d0.data d1.data).bind fun Dv=>(bif Dv then ((sH (⟨(⟨d0.closure.term.kind,d0.closure.term.value,d0.closure.term.data,d0.closure.term.kids⟩:ak),d0.closure.env⟩:ay) (⟨(⟨d1.closure.term.kind,d1.closure.term.value,d1.closure.term.data,d1.closure.term.kids⟩:ak),d1.closure.env⟩:ay)).bind fun y24=>(bif y24 then some true else some false)) else some false))))
set_option maxHeartbeats 2000000 in
theorem ad9 (d0:aO) (d1:aO) (r:Bool) (hm:AP d0 d1=some r) (v0:Value) (v1:Value) (w:World) (hv0:St nS w v0 d0) (hv1:St nS w v1 d1) :
    Calls Tryz.prog 68 #[v0,v1] w fun e w'=>e=.returned (.bool r)∧Below w.heap.size w w':=by
  obtain ⟨lg,rfl,⟨A1,n1,c1,A2,n2,c2,A3,n3,c3,A4,n4,c4,rfl,⟨h1,r1⟩,⟨h2,r2⟩,⟨h3,r3⟩,⟨h4,r4⟩⟩⟩:=hv0;obtain ⟨rfl,q1⟩:=bI h1 r1;obtain ⟨rfl,q2⟩:=bI h2 r2;obtain ⟨rfl,q3⟩:=bI h3 r3;obtain ⟨rfl,q4⟩:=bI h4 r4;obtain ⟨SG,rfl,⟨A5,n5,c5,A6,n6,c6,A7,n7,c7,A8,n8,c8,rfl,⟨h5,r5⟩,⟨h6,r6⟩,⟨h7,r7⟩,⟨h8,r8⟩⟩⟩:=hv1;obtain ⟨rfl,q5⟩:=bI h5 r5;obtain ⟨rfl,q6⟩:=bI h6 r6;obtain ⟨rfl,q7⟩:=bI h7 r7;obtain ⟨rfl,q8⟩:=bI h8 r8;have T:=Below.refl w.heap.size w;unfold AP at hm;refine enter 27 Tryz.func68 rfl rfl rfl ?_;intro f hf;have s0:f 0=.agg #[.int .i64 d0.kind,.int .i64 d0.value,.slice A1 d0.data.length c1,.int .i64 d0.closure.term.kind,.int .i64 d0.closure.term.value,.slice A2 d0.closure.term.data.length c2,.slice A3 d0.closure.term.kids.length c3,.slice A4 d0.closure.env.length c4]:=hf 0 _ rfl;have s1:f 1=.agg #[.int .i64 d1.kind,.int .i64 d1.value,.slice A5 d1.data.length c5,.int .i64 d1.closure.term.kind,.int .i64 d1.closure.term.value,.slice A6 d1.closure.term.data.length c6,.slice A7 d1.closure.term.kids.length c7,.slice A8 d1.closure.env.length c8]:=hf 1 _ rfl;refine wp_seq<|bF rfl ?_;refine RL.box rfl s0 (fun w9 B10 Bo axA=>?_);replace B10:dD w9 w.heap.size 77 #[.int .i64 d0.kind,.int .i64 d0.value,.slice A1 d0.data.length c1,.int .i64 d0.closure.term.kind,.int .i64 d0.closure.term.value,.slice A2 d0.closure.term.data.length c2,.slice A3 d0.closure.term.kids.length c3,.slice A4 d0.closure.env.length c4]:=B10;have aLj:w.heap.size≤w.heap.size:=T.size;have T:=Tt T Bo;refine RL.box rfl s1 (fun w13 B14 PL apZ=>?_);replace B14:dD w13 w9.heap.size 77 #[.int .i64 d1.kind,.int .i64 d1.value,.slice A5 d1.data.length c5,.int .i64 d1.closure.term.kind,.int .i64 d1.closure.term.value,.slice A6 d1.closure.term.data.length c6,.slice A7 d1.closure.term.kids.length c7,.slice A8 d1.closure.env.length c8]:=B14;have aZu:w.heap.size≤w9.heap.size:=T.size;have Jo:=Nat.ne_of_lt B10.lt;have B10:=aX B10 PL;have T:=Tt T PL;refine Ez (.bool false)<|RL.nil<|ah<|wp_seq<|wp_seq<|au rfl<|gy 0 rfl<|gZ (.int .i64 d0.kind) rfl (cu (aj B10 (i:=0) rfl))<|gy 0 rfl<|gZ (.int .i64 d1.kind) rfl (cu (aj B14 (i:=0) rfl))<|iq (.bool (d0.kind != d1.kind))<|RQ.nil<|ah ?_;rcases aB (d0.kind != d1.kind) with c17|c17
  ·replace hm:=cF c17 hm;refine iH c17<|wp_skip<|ah<|wp_seq<|wp_seq<|au rfl<|gy 1 rfl<|gZ (.int .i64 d0.value) rfl (cu (aj B10 (i:=1) rfl))<|gy 1 rfl<|gZ (.int .i64 d1.value) rfl (cu (aj B14 (i:=1) rfl))<|iq (.bool (d0.value != d1.value))<|RQ.nil<|ah ?_;rcases aB (d0.value != d1.value) with c18|c18
   ·replace hm:=cF c18 hm;refine iH c18<|wp_skip<|ah<|wp_seq<|wp_seq<|cZ rfl<|gy 2 rfl<|gZ (.slice A1 d0.data.length c1) rfl (bV (aj B10 (i:=2) rfl))<|gy 2 rfl<|gZ (.slice A5 d1.data.length c5) rfl (bV (aj B14 (i:=2) rfl)) ?_;obtain ⟨Dv,e20,hm⟩:=bnd hm;refine RQ.call rfl (qV rfl rfl) (by kernel_rfl) (v:=.bool Dv) (bel (K:=fun _=>True) fun w' hb'=>(H8 d0.data d1.data _ e20 _ _ w' (eY aG h1 r1 (Tt T hb')) (eY aG h5 r5 (Tt T hb'))))<|RQ.y rfl (Y.not (b':=(!Dv)) rfl rfl)<|RQ.nil ?_;intro w21 SI;have B10:=aX B10 SI;have B14:=aX B14 SI;have T:=Tt T SI;refine ah ?_;rcases aB Dv with c23|c23
    ·replace hm:=cF c23 hm;refine dX rfl (gQ rfl c23 rfl)<|wp_seq<|au rfl<|aW (.bool false)<|RQ.nil<|ah<|wp_ret ?_
     cases hm
     exact (aF (aV rfl rfl rfl ⟨rfl,T⟩))
    replace hm:=cT c23 hm;refine gU rfl (gQ rfl c23 rfl)<|wp_skip<|ah<|wp_seq<|wp_seq<|cZ rfl<|gy 3 rfl<|LC [.int .i64 d0.closure.term.kind,.int .i64 d0.closure.term.value,.slice A2 d0.closure.term.data.length c2,.slice A3 d0.closure.term.kids.length c3,.slice A4 d0.closure.env.length c4] rfl (cells5 (bV (aj B10 (i:=3) rfl)) (bV (aj B10 (i:=4) rfl)) (bV (aj B10 (i:=5) rfl)) (bV (aj B10 (i:=6) rfl)) (bV (aj B10 (i:=7) rfl)))<|gy 3 rfl<|LC [.int .i64 d1.closure.term.kind,.int .i64 d1.closure.term.value,.slice A6 d1.closure.term.data.length c6,.slice A7 d1.closure.term.kids.length c7,.slice A8 d1.closure.env.length c8] rfl (cells5 (bV (aj B14 (i:=3) rfl)) (bV (aj B14 (i:=4) rfl)) (bV (aj B14 (i:=5) rfl)) (bV (aj B14 (i:=6) rfl)) (bV (aj B14 (i:=7) rfl))) ?_;obtain ⟨y24,e25,hm⟩:=bnd hm;refine RQ.call rfl (qV rfl rfl) (by kernel_rfl) (v:=.bool y24) (bel (K:=fun _=>True) fun w' hb'=>(FM (⟨(⟨d0.closure.term.kind,d0.closure.term.value,d0.closure.term.data,d0.closure.term.kids⟩:ak),d0.closure.env⟩:ay) (⟨(⟨d1.closure.term.kind,d1.closure.term.value,d1.closure.term.data,d1.closure.term.kids⟩:ak),d1.closure.env⟩:ay) _ e25 _ _ w' (fE (R:=dM) ⟨_,_,_,_,_,_,_,_,_,rfl,⟨aY.now aG h2 (dB) (Tt T hb'),r2⟩,⟨aY.now aK h3 (dB) (Tt T hb'),r3⟩,⟨aY.now aG h4 (dB) (Tt T hb'),r4⟩⟩) (fE (R:=dM) ⟨_,_,_,_,_,_,_,_,_,rfl,⟨aY.now aG h6 (dB) (Tt T hb'),r6⟩,⟨aY.now aK h7 (dB) (Tt T hb'),r7⟩,⟨aY.now aG h8 (dB) (Tt T hb'),r8⟩⟩)))<|RQ.y rfl (Y.not (b':=(!y24)) rfl rfl)<|RQ.nil ?_;intro PS Wp;have T:=Tt T Wp;refine ah ?_;rcases aB y24 with c28|c28
    ·replace hm:=cF c28 hm;refine dX rfl (gQ rfl c28 rfl)<|wp_seq<|au rfl<|aW (.bool false)<|RQ.nil<|ah<|wp_ret ?_
     cases hm
     exact (aF (aV rfl rfl rfl ⟨rfl,T⟩))
    replace hm:=cT c28 hm;refine gU rfl (gQ rfl c28 rfl)<|wp_skip<|ah<|wp_seq<|au rfl<|aW (.bool true)<|RQ.nil<|ah<|wp_ret ?_
    cases hm
    exact (aV rfl rfl rfl ⟨rfl,T⟩)
   replace hm:=cT c18 hm;refine ig c18<|wp_seq<|au rfl<|aW (.bool false)<|RQ.nil<|ah<|wp_ret ?_
   cases hm
   exact (aF (aV rfl rfl rfl ⟨rfl,T⟩))
  replace hm:=cT c17 hm;refine ig c17<|wp_seq<|au rfl<|aW (.bool false)<|RQ.nil<|ah<|wp_ret ?_
  cases hm
  exact (aF (aV rfl rfl rfl ⟨rfl,T⟩))
noncomputable def sJ:Option Bool:=
  some true
noncomputable def wY (d0:List aO) (d1:List aO) (eU:Int→Option Bool) (K1:Option Bool) (i3:Int):Option Bool:=
  (bif (decide (i3 < (d0.length:Int))) then ((fC d0 i3).bind fun x6=>((fC d1 i3).bind fun x19=>((AP x6 x19).bind fun y32=>(bif y32 then (eU (i3+1)) else some false)))) else (K1))
noncomputable def kN (d0:List aO) (d1:List aO) (K1:Option Bool):Nat→Int→Option Bool
  |0,_=>none
  |g+1,i3=>wY d0 d1 (kN d0 d1 K1 g) K1 i3
noncomputable def Ci (d0:List aO) (d1:List aO):Option Bool:=
  (bif ((d0.length:Int) != (d1.length:Int)) then some false else (kN d0 d1 sJ (d0.length+1) 0))
set_option maxHeartbeats 2000000 in
theorem abC (d0:List aO) (d1:List aO) (r:Bool) (hm:Ci d0 d1=some r) (v0:Value) (v1:Value) (w:World) (hv0:Sl nS 8 w v0 d0) (hv1:Sl nS 8 w v1 d1) :
    Calls Tryz.prog 31 #[v0,v1] w fun e w'=>e=.returned (.bool r)∧Below w.heap.size w w':=by
  obtain ⟨Bc,na0,ca0,rfl,ha0,GN⟩:=hv0;obtain ⟨rfl,qa0⟩:=bI ha0 GN;obtain ⟨Aa1,na1,ca1,rfl,ha1,ra1⟩:=hv1;obtain ⟨rfl,qa1⟩:=bI ha1 ra1;have T:=Below.refl w.heap.size w;unfold Ci at hm;refine enter 27 Tryz.func31 rfl rfl rfl ?_;intro f hf;have s0:f 0=.slice Bc d0.length ca0:=hf 0 _ rfl;have s1:f 1=.slice Aa1 d1.length ca1:=hf 1 _ rfl;refine wp_seq<|au rfl<|aW (.bool false)<|RQ.nil<|ah<|wp_seq<|wp_seq<|au rfl<|aT s0<|yH rfl<|aT s1<|yH rfl<|iq (.bool ((d0.length:Int) != (d1.length:Int)))<|RQ.nil<|ah ?_;rcases aB ((d0.length:Int) != (d1.length:Int)) with c1|c1
  ·replace hm:=cF c1 hm;refine iH c1<|wp_skip<|ah<|wp_seq<|wp_seq<|au rfl<|aW (.int .i64 0)<|RQ.nil<|ah<|wp_block ?_;obtain ⟨K1,hK1,hm⟩ :∃K,K=sJ∧kN d0 d1 K (d0.length+1) 0=some r:=⟨_,rfl,hm⟩;refine dG (fun g f w'=>∃(i3:Int),f 0=.slice Bc d0.length ca0∧f 1=.slice Aa1 d1.length ca1∧f 5=.int .i64 i3∧0≤i3∧Below w.heap.size w w'∧kN d0 d1 K1 g i3=some r) 0 (fun f w'=>Below w.heap.size w w'∧sJ  = some r) (d0.length+1) ⟨0,s0,s1,rfl,(by omega),T,hm⟩ ?_ ?_
   ·rintro f w2 ⟨T,hm⟩;unfold sJ at hm;refine dW (ah ?_);refine wp_seq<|au rfl<|aW (.bool true)<|RQ.nil<|ah<|wp_ret ?_
    cases hm
    exact (aV rfl rfl rfl ⟨rfl,T⟩)
   rintro g f w4 ⟨i3,dQ,iF,jD,P6,T,hm⟩;rcases g with _|g
   ·simp only [kN] at hm; cases hm
   obtain ⟨eU,d_,hm⟩ :∃z,z=kN d0 d1 K1 g∧wY d0 d1 z K1 i3=some r:=⟨_,rfl,hm⟩;unfold wY at hm;refine wp_seq<|wp_seq<|au rfl<|aT jD<|aT dQ<|yH rfl<|iq (.bool (decide (i3 < (d0.length:Int))))<|RQ.nil<|ah ?_;rcases aB (decide (i3 < (d0.length:Int))) with c5|c5
   ·replace hm:=cF c5 hm;have pc5:=of_decide_eq_false c5;refine iH c5<|wp_exit ?_;exact (bQ (bQ (iW ⟨_,rfl,⟨T,(by rw [hK1] at hm; exact hm)⟩⟩)))
   replace hm:=cT c5 hm;have pc5:=of_decide_eq_true c5;refine ig c5<|wp_skip<|ah<|wp_seq<|wp_block<|wp_seq<|FC (by kernel_rfl) (by kernel_rfl)<|aT dQ<|aT jD ?_;obtain ⟨x6,hx9,hm⟩:=bnd hm;obtain ⟨k7,hk10,adO,hx9⟩:=aU hx9;obtain ⟨b13,o14,rfl,aml⟩:=ha0.addr (by omega);obtain ⟨cs8,Gv,hc12⟩:=ha0.el hx9;have amm:=Gv;obtain ⟨A15,n15,c15,A16,n16,c16,A17,n17,c17,A18,n18,c18,rfl,⟨h15,r15⟩,⟨h16,r16⟩,⟨h17,r17⟩,⟨h18,r18⟩⟩:=Gv;obtain ⟨rfl,q15⟩:=bI h15 r15;obtain ⟨rfl,q16⟩:=bI h16 r16;obtain ⟨rfl,q17⟩:=bI h17 r17;obtain ⟨rfl,q18⟩:=bI h18 r18;refine RQ.y rfl (Y.indexAddr (m:=k7) (sz:=8) rfl rfl hk10 adO (by kernel_rfl))<|LC [.int .i64 x6.kind,.int .i64 x6.value,.slice A15 x6.data.length c15,.int .i64 x6.closure.term.kind,.int .i64 x6.closure.term.value,.slice A16 x6.closure.term.data.length c16,.slice A17 x6.closure.term.kids.length c17,.slice A18 x6.closure.env.length c18] rfl (QC (bV (cellT T (hc12 0 _ rfl))) (bV (cellT T (hc12 1 _ rfl))) (bV (cellT T (hc12 2 _ rfl))) (bV (cellT T (hc12 3 _ rfl))) (bV (cellT T (hc12 4 _ rfl))) (bV (cellT T (hc12 5 _ rfl))) (bV (cellT T (hc12 6 _ rfl))) (bV (cellT T (hc12 7 _ rfl))))<|aT iF<|aT jD ?_;obtain ⟨x19,aLT,hm⟩:=bnd hm;obtain ⟨k20,aZv,aZw,aLT⟩:=aU aLT;obtain ⟨b26,o27,rfl,a9x⟩:=ha1.addr (by omega);obtain ⟨bbm,aBA,hc25⟩:=ha1.el aLT;have aZx:=aBA;obtain ⟨A28,n28,c28,A29,n29,c29,A30,n30,PU,A31,n31,c31,rfl,⟨h28,r28⟩,⟨h29,r29⟩,⟨h30,r30⟩,⟨h31,r31⟩⟩:=aBA;obtain ⟨rfl,q28⟩:=bI h28 r28;obtain ⟨rfl,q29⟩:=bI h29 r29;obtain ⟨rfl,q30⟩:=bI h30 r30;obtain ⟨rfl,q31⟩:=bI h31 r31;refine RQ.y rfl (Y.indexAddr (m:=k20) (sz:=8) rfl rfl aZv aZw (by kernel_rfl))<|LC [.int .i64 x19.kind,.int .i64 x19.value,.slice A28 x19.data.length c28,.int .i64 x19.closure.term.kind,.int .i64 x19.closure.term.value,.slice A29 x19.closure.term.data.length c29,.slice A30 x19.closure.term.kids.length PU,.slice A31 x19.closure.env.length c31] rfl (QC (bV (cellT T (hc25 0 _ rfl))) (bV (cellT T (hc25 1 _ rfl))) (bV (cellT T (hc25 2 _ rfl))) (bV (cellT T (hc25 3 _ rfl))) (bV (cellT T (hc25 4 _ rfl))) (bV (cellT T (hc25 5 _ rfl))) (bV (cellT T (hc25 6 _ rfl))) (bV (cellT T (hc25 7 _ rfl)))) ?_;obtain ⟨y32,e33,hm⟩:=bnd hm;refine RQ.call rfl (qV rfl rfl) (by kernel_rfl) (v:=.bool y32) (bel (K:=fun _=>True) fun w' hb'=>(ad9 x6 x19 _ e33 _ _ w' (fE (R:=nS) ⟨_,_,_,_,_,_,_,_,_,_,_,_,rfl,⟨aY.now aG h15 (dB) (Tt T hb'),r15⟩,⟨aY.now aG h16 (dB) (Tt T hb'),r16⟩,⟨aY.now aK h17 (dB) (Tt T hb'),r17⟩,⟨aY.now aG h18 (dB) (Tt T hb'),r18⟩⟩) (fE (R:=nS) ⟨_,_,_,_,_,_,_,_,_,_,_,_,rfl,⟨aY.now aG h28 (dB) (Tt T hb'),r28⟩,⟨aY.now aG h29 (dB) (Tt T hb'),r29⟩,⟨aY.now aK h30 (dB) (Tt T hb'),r30⟩,⟨aY.now aG h31 (dB) (Tt T hb'),r31⟩⟩)))<|RQ.y rfl (Y.not (b':=(!y32)) rfl rfl)<|RQ.nil ?_
   intro w34 axP;have awJ:=axP.size;have T:=Tt T axP;refine ah ?_;rcases aB y32 with c36|c36
   ·replace hm:=cF c36 hm;refine dX rfl (gQ rfl c36 rfl)<|wp_seq<|au rfl<|aW (.bool false)<|RQ.nil<|ah<|wp_ret ?_
    cases hm
    exact (bC (aF (aF (jG (bC (aF (aV rfl rfl rfl ⟨rfl,T⟩)))))))
   replace hm:=cT c36 hm;refine gU rfl (gQ rfl c36 rfl)<|wp_skip ?_;refine eF (ah ?_);refine au rfl<|aT jD<|RQ.y rfl (Y.dS rfl rfl (bn (m:=i3) (by omega)))<|aW (.int .i64 (i3+1))<|RQ.nil ?_;exact (ah ⟨g,_,Nat.lt_succ_self _,rfl,⟨(i3+1),dQ,iF,rfl,(by omega),T,(by rw [← d_]; exact hm)⟩⟩)
  replace hm:=cT c1 hm;refine ig c1<|wp_seq<|au rfl<|aW (.bool false)<|RQ.nil<|ah<|wp_ret ?_
  cases hm
  exact (aF (aV rfl rfl rfl ⟨rfl,T⟩))
noncomputable def AQ (d0:bD) (d1:bD):Option Bool:=
  (bif (d0.done != d1.done) then some false else ((sH (⟨(⟨d0.closure.term.kind,d0.closure.term.value,d0.closure.term.data,d0.closure.term.kids⟩:ak),d0.closure.env⟩:ay) (⟨(⟨d1.closure.term.kind,d1.closure.term.value,d1.closure.term.data,d1.closure.term.kids⟩:ak),d1.closure.env⟩:ay)).bind fun PV=>(bif PV then some true else some false)))
set_option maxHeartbeats 2000000 in
theorem ad_ (d0:bD) (d1:bD) (r:Bool) (hm:AQ d0 d1=some r) (v0:Value) (v1:Value) (w:World) (hv0:St yQ w v0 d0) (hv1:St yQ w v1 d1) :
    Calls Tryz.prog 69 #[v0,v1] w fun e w'=>e=.returned (.bool r)∧Below w.heap.size w w':=by
  obtain ⟨lg,rfl,⟨A1,n1,c1,A2,n2,c2,A3,n3,c3,rfl,⟨h1,r1⟩,⟨h2,r2⟩,⟨h3,r3⟩⟩⟩:=hv0;obtain ⟨rfl,q1⟩:=bI h1 r1;obtain ⟨rfl,q2⟩:=bI h2 r2;obtain ⟨rfl,q3⟩:=bI h3 r3;obtain ⟨SG,rfl,⟨A4,n4,c4,A5,n5,c5,A6,n6,c6,rfl,⟨h4,r4⟩,⟨h5,r5⟩,⟨h6,r6⟩⟩⟩:=hv1;obtain ⟨rfl,q4⟩:=bI h4 r4;obtain ⟨rfl,q5⟩:=bI h5 r5;obtain ⟨rfl,q6⟩:=bI h6 r6;have T:=Below.refl w.heap.size w;unfold AQ at hm;refine enter 16 Tryz.func69 rfl rfl rfl ?_;intro f hf;have s0:f 0=.agg #[.bool d0.done,.int .i64 d0.closure.term.kind,.int .i64 d0.closure.term.value,.slice A1 d0.closure.term.data.length c1,.slice A2 d0.closure.term.kids.length c2,.slice A3 d0.closure.env.length c3]:=hf 0 _ rfl;have s1:f 1=.agg #[.bool d1.done,.int .i64 d1.closure.term.kind,.int .i64 d1.closure.term.value,.slice A4 d1.closure.term.data.length c4,.slice A5 d1.closure.term.kids.length c5,.slice A6 d1.closure.env.length c6]:=hf 1 _ rfl;refine wp_seq<|bF rfl ?_;refine RL.box rfl s0 (fun w7 B8 Zc aj_=>?_);replace B8:dD w7 w.heap.size 73 #[.bool d0.done,.int .i64 d0.closure.term.kind,.int .i64 d0.closure.term.value,.slice A1 d0.closure.term.data.length c1,.slice A2 d0.closure.term.kids.length c2,.slice A3 d0.closure.env.length c3]:=B8;have GB8:w.heap.size≤w.heap.size:=T.size;have T:=Tt T Zc;refine RL.box rfl s1 (fun uS gY Ad WV=>?_);replace gY:dD uS w7.heap.size 73 #[.bool d1.done,.int .i64 d1.closure.term.kind,.int .i64 d1.closure.term.value,.slice A4 d1.closure.term.data.length c4,.slice A5 d1.closure.term.kids.length c5,.slice A6 d1.closure.env.length c6]:=gY;have ap_:w.heap.size≤w7.heap.size:=T.size;have z_:=Nat.ne_of_lt B8.lt;have B8:=aX B8 Ad;have T:=Tt T Ad;refine Ez (.bool false)<|RL.nil<|ah<|wp_seq<|wp_seq<|au rfl<|gy 0 rfl<|gZ (.bool d0.done) rfl (cu (aj B8 (i:=0) rfl))<|gy 0 rfl<|gZ (.bool d1.done) rfl (cu (aj gY (i:=0) rfl))<|RQ.y rfl (Y.beq (c:=(d0.done != d1.done)) (by kernel_rfl) rfl rfl (.inr ⟨rfl,rfl⟩))<|RQ.nil<|ah ?_;rcases aB (d0.done != d1.done) with c15|c15
  ·replace hm:=cF c15 hm;refine iH c15<|wp_skip<|ah<|wp_seq<|wp_seq<|cZ rfl<|gy 1 rfl<|LC [.int .i64 d0.closure.term.kind,.int .i64 d0.closure.term.value,.slice A1 d0.closure.term.data.length c1,.slice A2 d0.closure.term.kids.length c2,.slice A3 d0.closure.env.length c3] rfl (cells5 (bV (aj B8 (i:=1) rfl)) (bV (aj B8 (i:=2) rfl)) (bV (aj B8 (i:=3) rfl)) (bV (aj B8 (i:=4) rfl)) (bV (aj B8 (i:=5) rfl)))<|gy 1 rfl<|LC [.int .i64 d1.closure.term.kind,.int .i64 d1.closure.term.value,.slice A4 d1.closure.term.data.length c4,.slice A5 d1.closure.term.kids.length c5,.slice A6 d1.closure.env.length c6] rfl (cells5 (bV (aj gY (i:=1) rfl)) (bV (aj gY (i:=2) rfl)) (bV (aj gY (i:=3) rfl)) (bV (aj gY (i:=4) rfl)) (bV (aj gY (i:=5) rfl))) ?_;obtain ⟨PV,e17,hm⟩:=bnd hm;refine RQ.call rfl (qV rfl rfl) (by kernel_rfl) (v:=.bool PV) (bel (K:=fun _=>True) fun w' hb'=>(FM (⟨(⟨d0.closure.term.kind,d0.closure.term.value,d0.closure.term.data,d0.closure.term.kids⟩:ak),d0.closure.env⟩:ay) (⟨(⟨d1.closure.term.kind,d1.closure.term.value,d1.closure.term.data,d1.closure.term.kids⟩:ak),d1.closure.env⟩:ay) _ e17 _ _ w' (fE (R:=dM) ⟨_,_,_,_,_,_,_,_,_,rfl,⟨aY.now aG h1 (dB) (Tt T hb'),r1⟩,⟨aY.now aK h2 (dB) (Tt T hb'),r2⟩,⟨aY.now aG h3 (dB) (Tt T hb'),r3⟩⟩) (fE (R:=dM) ⟨_,_,_,_,_,_,_,_,_,rfl,⟨aY.now aG h4 (dB) (Tt T hb'),r4⟩,⟨aY.now aK h5 (dB) (Tt T hb'),r5⟩,⟨aY.now aG h6 (dB) (Tt T hb'),r6⟩⟩)))<|RQ.y rfl (Y.not (b':=(!PV)) rfl rfl)<|RQ.nil ?_;intro w18 EP;have T:=Tt T EP;refine ah ?_;rcases aB PV with c20|c20
   ·replace hm:=cF c20 hm;refine dX rfl (gQ rfl c20 rfl)<|wp_seq<|au rfl<|aW (.bool false)<|RQ.nil<|ah<|wp_ret ?_
    cases hm
    exact (aF (aV rfl rfl rfl ⟨rfl,T⟩))
   replace hm:=cT c20 hm;refine gU rfl (gQ rfl c20 rfl)<|wp_skip<|ah<|wp_seq<|au rfl<|aW (.bool true)<|RQ.nil<|ah<|wp_ret ?_
   cases hm
   exact (aV rfl rfl rfl ⟨rfl,T⟩)
  replace hm:=cT c15 hm;refine ig c15<|wp_seq<|au rfl<|aW (.bool false)<|RQ.nil<|ah<|wp_ret ?_
  cases hm
  exact (aF (aV rfl rfl rfl ⟨rfl,T⟩))
noncomputable def sK:Option Bool:=
  some true
noncomputable def wZ (d0:List bD) (d1:List bD) (eU:Int→Option Bool) (K1:Option Bool) (i3:Int):Option Bool:=
  (bif (decide (i3 < (d0.length:Int))) then ((fC d0 i3).bind fun x6=>((fC d1 i3).bind fun x18=>((AQ x6 x18).bind fun y30=>(bif y30 then (eU (i3+1)) else some false)))) else (K1))
noncomputable def kP (d0:List bD) (d1:List bD) (K1:Option Bool):Nat→Int→Option Bool
  |0,_=>none
  |g+1,i3=>wZ d0 d1 (kP d0 d1 K1 g) K1 i3
noncomputable def Cj (d0:List bD) (d1:List bD):Option Bool:=
  (bif ((d0.length:Int) != (d1.length:Int)) then some false else (kP d0 d1 sK (d0.length+1) 0))
set_option maxHeartbeats 2000000 in
theorem abD (d0:List bD) (d1:List bD) (r:Bool) (hm:Cj d0 d1=some r) (v0:Value) (v1:Value) (w:World) (hv0:Sl yQ 6 w v0 d0) (hv1:Sl yQ 6 w v1 d1) :
    Calls Tryz.prog 32 #[v0,v1] w fun e w'=>e=.returned (.bool r)∧Below w.heap.size w w':=by
  obtain ⟨Bc,na0,ca0,rfl,ha0,GN⟩:=hv0;obtain ⟨rfl,qa0⟩:=bI ha0 GN;obtain ⟨Aa1,na1,ca1,rfl,ha1,ra1⟩:=hv1;obtain ⟨rfl,qa1⟩:=bI ha1 ra1;have T:=Below.refl w.heap.size w;unfold Cj at hm;refine enter 27 Tryz.func32 rfl rfl rfl ?_;intro f hf;have s0:f 0=.slice Bc d0.length ca0:=hf 0 _ rfl;have s1:f 1=.slice Aa1 d1.length ca1:=hf 1 _ rfl;refine wp_seq<|au rfl<|aW (.bool false)<|RQ.nil<|ah<|wp_seq<|wp_seq<|au rfl<|aT s0<|yH rfl<|aT s1<|yH rfl<|iq (.bool ((d0.length:Int) != (d1.length:Int)))<|RQ.nil<|ah ?_;rcases aB ((d0.length:Int) != (d1.length:Int)) with c1|c1
  ·replace hm:=cF c1 hm;refine iH c1<|wp_skip<|ah<|wp_seq<|wp_seq<|au rfl<|aW (.int .i64 0)<|RQ.nil<|ah<|wp_block ?_;obtain ⟨K1,hK1,hm⟩ :∃K,K=sK∧kP d0 d1 K (d0.length+1) 0=some r:=⟨_,rfl,hm⟩;refine dG (fun g f w'=>∃(i3:Int),f 0=.slice Bc d0.length ca0∧f 1=.slice Aa1 d1.length ca1∧f 5=.int .i64 i3∧0≤i3∧Below w.heap.size w w'∧kP d0 d1 K1 g i3=some r) 0 (fun f w'=>Below w.heap.size w w'∧sK  = some r) (d0.length+1) ⟨0,s0,s1,rfl,(by omega),T,hm⟩ ?_ ?_
   ·rintro f w2 ⟨T,hm⟩;unfold sK at hm;refine dW (ah ?_);refine wp_seq<|au rfl<|aW (.bool true)<|RQ.nil<|ah<|wp_ret ?_
    cases hm
    exact (aV rfl rfl rfl ⟨rfl,T⟩)
   rintro g f w4 ⟨i3,dQ,iF,jD,P6,T,hm⟩;rcases g with _|g
   ·simp only [kP] at hm; cases hm
   obtain ⟨eU,d_,hm⟩ :∃z,z=kP d0 d1 K1 g∧wZ d0 d1 z K1 i3=some r:=⟨_,rfl,hm⟩;unfold wZ at hm;refine wp_seq<|wp_seq<|au rfl<|aT jD<|aT dQ<|yH rfl<|iq (.bool (decide (i3 < (d0.length:Int))))<|RQ.nil<|ah ?_;rcases aB (decide (i3 < (d0.length:Int))) with c5|c5
   ·replace hm:=cF c5 hm;have pc5:=of_decide_eq_false c5;refine iH c5<|wp_exit ?_;exact (bQ (bQ (iW ⟨_,rfl,⟨T,(by rw [hK1] at hm; exact hm)⟩⟩)))
   replace hm:=cT c5 hm;have pc5:=of_decide_eq_true c5;refine ig c5<|wp_skip<|ah<|wp_seq<|wp_block<|wp_seq<|FC (by kernel_rfl) (by kernel_rfl)<|aT dQ<|aT jD ?_;obtain ⟨x6,hx9,hm⟩:=bnd hm;obtain ⟨k7,hk10,adO,hx9⟩:=aU hx9;obtain ⟨b13,o14,rfl,aml⟩:=ha0.addr (by omega);obtain ⟨cs8,Gv,hc12⟩:=ha0.el hx9;have amm:=Gv;obtain ⟨A15,n15,c15,A16,n16,c16,A17,n17,c17,rfl,⟨h15,r15⟩,⟨h16,r16⟩,⟨h17,r17⟩⟩:=Gv;obtain ⟨rfl,q15⟩:=bI h15 r15;obtain ⟨rfl,q16⟩:=bI h16 r16;obtain ⟨rfl,q17⟩:=bI h17 r17;refine RQ.y rfl (Y.indexAddr (m:=k7) (sz:=6) rfl rfl hk10 adO (by kernel_rfl))<|LC [.bool x6.done,.int .i64 x6.closure.term.kind,.int .i64 x6.closure.term.value,.slice A15 x6.closure.term.data.length c15,.slice A16 x6.closure.term.kids.length c16,.slice A17 x6.closure.env.length c17] rfl (QB (bV (cellT T (hc12 0 _ rfl))) (bV (cellT T (hc12 1 _ rfl))) (bV (cellT T (hc12 2 _ rfl))) (bV (cellT T (hc12 3 _ rfl))) (bV (cellT T (hc12 4 _ rfl))) (bV (cellT T (hc12 5 _ rfl))))<|aT iF<|aT jD ?_;obtain ⟨x18,aLU,hm⟩:=bnd hm;obtain ⟨k19,aZy,aZz,aLU⟩:=aU aLU;obtain ⟨b25,o26,rfl,a9y⟩:=ha1.addr (by omega);obtain ⟨bbn,aBB,hc24⟩:=ha1.el aLU;have aZA:=aBB;obtain ⟨A27,n27,Vx,A28,n28,c28,A29,n29,c29,rfl,⟨h27,r27⟩,⟨h28,r28⟩,⟨h29,r29⟩⟩:=aBB;obtain ⟨rfl,q27⟩:=bI h27 r27;obtain ⟨rfl,q28⟩:=bI h28 r28;obtain ⟨rfl,q29⟩:=bI h29 r29;refine RQ.y rfl (Y.indexAddr (m:=k19) (sz:=6) rfl rfl aZy aZz (by kernel_rfl))<|LC [.bool x18.done,.int .i64 x18.closure.term.kind,.int .i64 x18.closure.term.value,.slice A27 x18.closure.term.data.length Vx,.slice A28 x18.closure.term.kids.length c28,.slice A29 x18.closure.env.length c29] rfl (QB (bV (cellT T (hc24 0 _ rfl))) (bV (cellT T (hc24 1 _ rfl))) (bV (cellT T (hc24 2 _ rfl))) (bV (cellT T (hc24 3 _ rfl))) (bV (cellT T (hc24 4 _ rfl))) (bV (cellT T (hc24 5 _ rfl)))) ?_;obtain ⟨y30,e31,hm⟩:=bnd hm;refine RQ.call rfl (qV rfl rfl) (by kernel_rfl) (v:=.bool y30) (bel (K:=fun _=>True) fun w' hb'=>(ad_ x6 x18 _ e31 _ _ w' (fE (R:=yQ) ⟨_,_,_,_,_,_,_,_,_,rfl,⟨aY.now aG h15 (dB) (Tt T hb'),r15⟩,⟨aY.now aK h16 (dB) (Tt T hb'),r16⟩,⟨aY.now aG h17 (dB) (Tt T hb'),r17⟩⟩) (fE (R:=yQ) ⟨_,_,_,_,_,_,_,_,_,rfl,⟨aY.now aG h27 (dB) (Tt T hb'),r27⟩,⟨aY.now aK h28 (dB) (Tt T hb'),r28⟩,⟨aY.now aG h29 (dB) (Tt T hb'),r29⟩⟩)))<|RQ.y rfl (Y.not (b':=(!y30)) rfl rfl)<|RQ.nil ?_;intro w32 aj9;have aJe:=aj9.size
   have T:=Tt T aj9;refine ah ?_;rcases aB y30 with c34|c34
   ·replace hm:=cF c34 hm;refine dX rfl (gQ rfl c34 rfl)<|wp_seq<|au rfl<|aW (.bool false)<|RQ.nil<|ah<|wp_ret ?_
    cases hm
    exact (bC (aF (aF (jG (bC (aF (aV rfl rfl rfl ⟨rfl,T⟩)))))))
   replace hm:=cT c34 hm;refine gU rfl (gQ rfl c34 rfl)<|wp_skip ?_;refine eF (ah ?_);refine au rfl<|aT jD<|RQ.y rfl (Y.dS rfl rfl (bn (m:=i3) (by omega)))<|aW (.int .i64 (i3+1))<|RQ.nil ?_;exact (ah ⟨g,_,Nat.lt_succ_self _,rfl,⟨(i3+1),dQ,iF,rfl,(by omega),T,(by rw [← d_]; exact hm)⟩⟩)
  replace hm:=cT c1 hm;refine ig c1<|wp_seq<|au rfl<|aW (.bool false)<|RQ.nil<|ah<|wp_ret ?_
  cases hm
  exact (aF (aV rfl rfl rfl ⟨rfl,T⟩))
noncomputable def JX (d0:aN) (d1:aN):Option Bool:=
  ((sH (⟨(⟨d0.control.term.kind,d0.control.term.value,d0.control.term.data,d0.control.term.kids⟩:ak),d0.control.env⟩:ay) (⟨(⟨d1.control.term.kind,d1.control.term.value,d1.control.term.data,d1.control.term.kids⟩:ak),d1.control.env⟩:ay)).bind fun Dv=>(bif Dv then ((Ci d0.stack d1.stack).bind fun y24=>(bif y24 then ((Cj d0.heap d1.heap).bind fun y29=>(bif y29 then some true else some false)) else some false)) else some false))
set_option maxHeartbeats 2000000 in
theorem af_ (d0:aN) (d1:aN) (r:Bool) (hm:JX d0 d1=some r) (v0:Value) (v1:Value) (w:World) (hv0:St jQ w v0 d0) (hv1:St jQ w v1 d1) :
    Calls Tryz.prog 10 #[v0,v1] w fun e w'=>e=.returned (.bool r)∧Below w.heap.size w w':=by
  obtain ⟨lg,rfl,⟨A1,n1,c1,A2,n2,c2,A3,n3,c3,A4,n4,c4,A5,n5,c5,rfl,⟨h1,r1⟩,⟨h2,r2⟩,⟨h3,r3⟩,⟨h4,r4⟩,⟨h5,r5⟩⟩⟩:=hv0;obtain ⟨rfl,q1⟩:=bI h1 r1;obtain ⟨rfl,q2⟩:=bI h2 r2;obtain ⟨rfl,q3⟩:=bI h3 r3;obtain ⟨rfl,q4⟩:=bI h4 r4;obtain ⟨rfl,q5⟩:=bI h5 r5;obtain ⟨SG,rfl,⟨A6,n6,c6,A7,n7,c7,A8,n8,c8,A9,n9,c9,A10,n10,c10,rfl,⟨h6,r6⟩,⟨h7,r7⟩,⟨h8,r8⟩,⟨h9,r9⟩,⟨h10,r10⟩⟩⟩:=hv1;obtain ⟨rfl,q6⟩:=bI h6 r6;obtain ⟨rfl,q7⟩:=bI h7 r7;obtain ⟨rfl,q8⟩:=bI h8 r8;obtain ⟨rfl,q9⟩:=bI h9 r9;obtain ⟨rfl,q10⟩:=bI h10 r10;have T:=Below.refl w.heap.size w;unfold JX at hm;refine enter 23 Tryz.func10 rfl rfl rfl ?_;intro f hf;have s0:f 0=.agg #[.int .i64 d0.control.term.kind,.int .i64 d0.control.term.value,.slice A1 d0.control.term.data.length c1,.slice A2 d0.control.term.kids.length c2,.slice A3 d0.control.env.length c3,.slice A4 d0.stack.length c4,.slice A5 d0.heap.length c5]:=hf 0 _ rfl;have s1:f 1=.agg #[.int .i64 d1.control.term.kind,.int .i64 d1.control.term.value,.slice A6 d1.control.term.data.length c6,.slice A7 d1.control.term.kids.length c7,.slice A8 d1.control.env.length c8,.slice A9 d1.stack.length c9,.slice A10 d1.heap.length c10]:=hf 1 _ rfl;refine wp_seq<|bF rfl ?_;refine RL.box rfl s0 (fun uS gY Ad WV=>?_);replace gY:dD uS w.heap.size 44 #[.int .i64 d0.control.term.kind,.int .i64 d0.control.term.value,.slice A1 d0.control.term.data.length c1,.slice A2 d0.control.term.kids.length c2,.slice A3 d0.control.env.length c3,.slice A4 d0.stack.length c4,.slice A5 d0.heap.length c5]:=gY;have ap_:w.heap.size≤w.heap.size:=T.size;have T:=Tt T Ad;refine RL.box rfl s1 (fun w15 jf Dq amo=>?_);replace jf:dD w15 uS.heap.size 44 #[.int .i64 d1.control.term.kind,.int .i64 d1.control.term.value,.slice A6 d1.control.term.data.length c6,.slice A7 d1.control.term.kids.length c7,.slice A8 d1.control.env.length c8,.slice A9 d1.stack.length c9,.slice A10 d1.heap.length c10]:=jf;have aLu:w.heap.size≤uS.heap.size:=T.size;have Jm:=Nat.ne_of_lt gY.lt;have gY:=aX gY Dq;have T:=Tt T Dq;refine Ez (.bool false)<|RL.nil<|ah<|wp_seq<|wp_seq<|cZ rfl<|gy 0 rfl<|LC [.int .i64 d0.control.term.kind,.int .i64 d0.control.term.value,.slice A1 d0.control.term.data.length c1,.slice A2 d0.control.term.kids.length c2,.slice A3 d0.control.env.length c3] rfl (cells5 (bV (aj gY (i:=0) rfl)) (bV (aj gY (i:=1) rfl)) (bV (aj gY (i:=2) rfl)) (bV (aj gY (i:=3) rfl)) (bV (aj gY (i:=4) rfl)))<|gy 0 rfl<|LC [.int .i64 d1.control.term.kind,.int .i64 d1.control.term.value,.slice A6 d1.control.term.data.length c6,.slice A7 d1.control.term.kids.length c7,.slice A8 d1.control.env.length c8] rfl (cells5 (bV (aj jf (i:=0) rfl)) (bV (aj jf (i:=1) rfl)) (bV (aj jf (i:=2) rfl)) (bV (aj jf (i:=3) rfl)) (bV (aj jf (i:=4) rfl))) ?_
  obtain ⟨Dv,e20,hm⟩:=bnd hm;refine RQ.call rfl (qV rfl rfl) (by kernel_rfl) (v:=.bool Dv) (bel (K:=fun _=>True) fun w' hb'=>(FM (⟨(⟨d0.control.term.kind,d0.control.term.value,d0.control.term.data,d0.control.term.kids⟩:ak),d0.control.env⟩:ay) (⟨(⟨d1.control.term.kind,d1.control.term.value,d1.control.term.data,d1.control.term.kids⟩:ak),d1.control.env⟩:ay) _ e20 _ _ w' (fE (R:=dM) ⟨_,_,_,_,_,_,_,_,_,rfl,⟨aY.now aG h1 (dB) (Tt T hb'),r1⟩,⟨aY.now aK h2 (dB) (Tt T hb'),r2⟩,⟨aY.now aG h3 (dB) (Tt T hb'),r3⟩⟩) (fE (R:=dM) ⟨_,_,_,_,_,_,_,_,_,rfl,⟨aY.now aG h6 (dB) (Tt T hb'),r6⟩,⟨aY.now aK h7 (dB) (Tt T hb'),r7⟩,⟨aY.now aG h8 (dB) (Tt T hb'),r8⟩⟩)))<|RQ.y rfl (Y.not (b':=(!Dv)) rfl rfl)<|RQ.nil ?_;intro w21 SI;have gY:=aX gY SI;have jf:=aX jf SI;have T:=Tt T SI;refine ah ?_;rcases aB Dv with c23|c23
  ·replace hm:=cF c23 hm;refine dX rfl (gQ rfl c23 rfl)<|wp_seq<|au rfl<|aW (.bool false)<|RQ.nil<|ah<|wp_ret ?_
   cases hm
   exact (aF (aV rfl rfl rfl ⟨rfl,T⟩))
  replace hm:=cT c23 hm;refine gU rfl (gQ rfl c23 rfl)<|wp_skip<|ah<|wp_seq<|wp_seq<|cZ rfl<|gy 5 rfl<|gZ (.slice A4 d0.stack.length c4) rfl (bV (aj gY (i:=5) rfl))<|gy 5 rfl<|gZ (.slice A9 d1.stack.length c9) rfl (bV (aj jf (i:=5) rfl)) ?_;obtain ⟨y24,e25,hm⟩:=bnd hm;refine RQ.call rfl (qV rfl rfl) (by kernel_rfl) (v:=.bool y24) (bel (K:=fun _=>True) fun w' hb'=>(abC d0.stack d1.stack _ e25 _ _ w' (eY kF h4 r4 (Tt T hb')) (eY kF h9 r9 (Tt T hb'))))<|RQ.y rfl (Y.not (b':=(!y24)) rfl rfl)<|RQ.nil ?_;intro PS Wp;have gY:=aX gY Wp;have jf:=aX jf Wp;have T:=Tt T Wp;refine ah ?_;rcases aB y24 with c28|c28
  ·replace hm:=cF c28 hm;refine dX rfl (gQ rfl c28 rfl)<|wp_seq<|au rfl<|aW (.bool false)<|RQ.nil<|ah<|wp_ret ?_
   cases hm
   exact (aF (aV rfl rfl rfl ⟨rfl,T⟩))
  replace hm:=cT c28 hm;refine gU rfl (gQ rfl c28 rfl)<|wp_skip<|ah<|wp_seq<|wp_seq<|cZ rfl<|gy 6 rfl<|gZ (.slice A5 d0.heap.length c5) rfl (bV (aj gY (i:=6) rfl))<|gy 6 rfl<|gZ (.slice A10 d1.heap.length c10) rfl (bV (aj jf (i:=6) rfl)) ?_;obtain ⟨y29,e30,hm⟩:=bnd hm;refine RQ.call rfl (qV rfl rfl) (by kernel_rfl) (v:=.bool y29) (bel (K:=fun _=>True) fun w' hb'=>(abD d0.heap d1.heap _ e30 _ _ w' (eY nN h5 r5 (Tt T hb')) (eY nN h10 r10 (Tt T hb'))))<|RQ.y rfl (Y.not (b':=(!y29)) rfl rfl)<|RQ.nil ?_;intro w31 Wh;have T:=Tt T Wh;refine ah ?_;rcases aB y29 with LH|LH
  ·replace hm:=cF LH hm;refine dX rfl (gQ rfl LH rfl)<|wp_seq<|au rfl<|aW (.bool false)<|RQ.nil<|ah<|wp_ret ?_
   cases hm
   exact (aF (aV rfl rfl rfl ⟨rfl,T⟩))
  replace hm:=cT LH hm;refine gU rfl (gQ rfl LH rfl)<|wp_skip<|ah<|wp_seq<|au rfl<|aW (.bool true)<|RQ.nil<|ah<|wp_ret ?_
  cases hm
  exact (aV rfl rfl rfl ⟨rfl,T⟩)
noncomputable def uK (xs8:List ak):Option (List ak):=
  some xs8
noncomputable def zx (iZ:ak→Option ak) (d0:List ak) (eU:List ak→Int→Option (List ak)) (K1:List ak→Option (List ak)) (oD:List ak) (i11:Int):Option (List ak):=
  (bif (decide (i11 < (d0.length:Int))) then ((fC d0 i11).bind fun x14=>((iZ x14).bind fun y25=>((fC oD i11).bind fun x38=>(eU (kX oD i11 y25) (i11+1))))) else (K1 oD))
noncomputable def lZ (iZ:ak→Option ak) (d0:List ak) (K1:List ak→Option (List ak)):Nat→List ak→Int→Option (List ak)
  |0,_,_=>none
  |g+1,oD,i11=>zx iZ d0 (lZ iZ d0 K1 g) K1 oD i11
noncomputable def AU (nM:(List ak)→Option (List ak)) (iZ:ak→Option ak) (d0:List ak):Option (List ak):=
  ((yB (d0.length≤4294967296)).bind fun _=>(lZ iZ d0 uK (d0.length+1) (List.replicate d0.length ((⟨0,0,[],[]⟩:ak):ak)) 0))
set_option maxHeartbeats 2000000 in
theorem aaH (nM:(List ak)→Option (List ak)) (iZ:ak→Option ak) (ih0 :∀(d0:List ak) (r:List ak) (hm:nM d0=some r) (v0:Value) (w:World) (hv0:Sl bf 4 w v0 d0),Calls Tryz.prog 21 #[v0] w fun e w'=>(∃(v0:Value) (bs0:List Nat),e=.returned (v0)∧aH 38 dI 4 w' w.heap.size v0 r bs0)∧Below w.heap.size w w') (ih1 :∀(d0:ak) (r:ak) (hm:iZ d0=some r) (v0:Value) (w:World) (hv0:St bf w v0 d0),Calls Tryz.prog 53 #[v0] w fun e w'=>(∃(v0:Value) (v1:Value) (Ag:List Nat),e=.returned (.agg #[.int .i64 r.kind,.int .i64 r.value,v0,v1])∧aA 2 encI 1 w' w.heap.size v0 r.data∧aH 38 dI 4 w' w.heap.size v1 r.kids Ag∧Ap (fb v0) Ag)∧Below w.heap.size w w') :∀(d0:List ak) (r:List ak) (hm:AU nM iZ d0=some r) (v0:Value) (w:World) (hv0:Sl bf 4 w v0 d0),
    Calls Tryz.prog 21 #[v0] w fun e w'=>(∃(v0:Value) (bs0:List Nat),e=.returned (v0)∧aH 38 dI 4 w' w.heap.size v0 r bs0)∧Below w.heap.size w w':=by
  intro d0 r hm v0 w hv0;obtain ⟨Bc,na0,ca0,rfl,ha0,GN⟩:=hv0;obtain ⟨rfl,qa0⟩:=bI ha0 GN;have T:=Below.refl w.heap.size w;unfold AU at hm;refine enter 23 Tryz.func21 rfl rfl rfl ?_;intro f hf;have s0:f 0=.slice Bc d0.length ca0:=hf 0 _ rfl;refine wp_seq<|au rfl<|aW (.slice none 0 0)<|RQ.nil<|ah<|wp_seq<|bF rfl<|kE s0<|aLz rfl ?_;obtain ⟨_,m1,hm⟩:=bnd hm;have hk2:=h_ m1;refine RL.aAi (O:=dI) (x0:=(⟨0,0,[],[]⟩:ak)) (n:=d0.length) EO (by decide) (fun w=>(Jh ⟨none,0,0,none,0,0,[],[],rfl,⟨⟨rfl,.inl ⟨rfl,rfl⟩⟩,dB,Nat.zero_le _⟩,⟨⟨rfl,.inl ⟨rfl,rfl⟩⟩,dB,Nat.zero_le _⟩,rfl⟩)) rfl rfl rfl hk2 (fun w3 G4 hb5 LP=>?_);replace G4:=aH.mono G4 T.size;have T:=Tt T hb5;refine Ez (.slice (some ⟨w.heap.size,0,none⟩) d0.length d0.length)<|RL.nil<|ah<|wp_seq<|wp_seq<|au rfl<|aW (.int .i64 0)<|RQ.nil<|ah<|wp_block ?_;obtain ⟨K1,hK1,hm⟩ :∃K,K=uK∧lZ iZ d0 K (d0.length+1) (List.replicate d0.length ((⟨0,0,[],[]⟩:ak):ak)) 0=some r:=⟨_,rfl,hm⟩;refine dG (fun g f w'=>∃(oD:List ak) (i11:Int) (Hf:Value) (tZ:List Nat),f 0=.slice Bc d0.length ca0∧f 3=Hf∧aH 38 dI 4 w' w.heap.size Hf oD tZ∧f 4=.int .i64 i11∧0≤i11∧Below w.heap.size w w'∧lZ iZ d0 K1 g oD i11=some r) 0 (fun f w'=>∃(xs8:List ak) (Uf:Value) (afo:List Nat),f 3=Uf∧aH 38 dI 4 w' w.heap.size Uf xs8 afo∧Below w.heap.size w w'∧uK xs8=some r) (d0.length+1) ⟨(List.replicate d0.length ((⟨0,0,[],[]⟩:ak):ak)),0,(.slice (some ⟨w.heap.size,0,none⟩) d0.length d0.length),([w.heap.size]),s0,rfl,G4,rfl,(by omega),T,hm⟩ ?_ ?_
  ·rintro f w9 ⟨xs8,Uf,afo,Bg,ag3,T,hm⟩;unfold uK at hm;refine dW (ah ?_);refine wp_seq<|au rfl<|aT Bg<|aW Uf<|RQ.nil<|ah<|wp_ret ?_;obtain rfl:=sj hm;exact (aV rfl rfl rfl ⟨⟨_,_,rfl,ag3⟩,T⟩)
  rintro g f w12 ⟨oD,i11,Hf,tZ,dQ,jE,jc,Dt,apU,T,hm⟩;rcases g with _|g
  ·simp only [lZ] at hm; cases hm
  obtain ⟨eU,d_,hm⟩ :∃z,z=lZ iZ d0 K1 g∧zx iZ d0 z K1 oD i11=some r:=⟨_,rfl,hm⟩;unfold zx at hm;refine wp_seq<|wp_seq<|au rfl<|aT Dt<|aT dQ<|yH rfl<|iq (.bool (decide (i11 < (d0.length:Int))))<|RQ.nil<|ah ?_;rcases aB (decide (i11 < (d0.length:Int))) with c13|c13
  ·replace hm:=cF c13 hm;have ag4:=of_decide_eq_false c13;refine iH c13<|wp_exit ?_;exact (bQ (bQ (iW ⟨_,rfl,⟨oD,(Hf),tZ,jE,jc,T,(by rw [hK1] at hm; exact hm)⟩⟩)))
  replace hm:=cT c13 hm;have ag4:=of_decide_eq_true c13;refine ig c13<|wp_skip<|ah<|wp_seq<|wp_block<|bF rfl<|kE jE<|kE Dt<|kE dQ<|kE Dt ?_;obtain ⟨x14,aas,hm⟩:=bnd hm;obtain ⟨k15,asW,asX,aas⟩:=aU aas;obtain ⟨b21,o22,rfl,aAk⟩:=ha0.addr (by omega);obtain ⟨aKw,NK,PK⟩:=ha0.el aas;have asY:=NK;obtain ⟨A23,n23,c23,A24,n24,c24,rfl,⟨h23,r23⟩,⟨h24,r24⟩⟩:=(bG NK);obtain ⟨rfl,q23⟩:=bI h23 r23;obtain ⟨rfl,q24⟩:=bI h24 r24;refine RL.y rfl (Y.indexAddr (m:=k15) (sz:=4) rfl rfl asW asX (by kernel_rfl))<|Sm [.int .i64 x14.kind,.int .i64 x14.value,.slice A23 x14.data.length c23,.slice A24 x14.kids.length c24] rfl (cells4 (cu (cellT T (PK 0 _ rfl))) (cu (cellT T (PK 1 _ rfl))) (cu (cellT T (PK 2 _ rfl))) (cu (cellT T (PK 3 _ rfl)))) ?_;obtain ⟨y25,e26,hm⟩:=bnd hm;refine RL.call rfl (qZ rfl) (by kernel_rfl) ((ih1 x14 _ e26 _ _ (fE (R:=bf) (dR ⟨_,_,_,_,_,_,rfl,⟨aY.now aG h23 (dB) T,r23⟩,⟨aY.now aK h24 (dB) T,r24⟩⟩))).mono ?_);rintro _ w34 ⟨⟨v27,v30,aGY,rfl,Sv,G31,aBC⟩,axP⟩;refine ⟨_,rfl,?_⟩;have awJ:=axP.size;have aJw:=T.size;have atp:Ap (fb v27) tZ:=(Ap.new (aA.dU Sv) (aH.hi jc));have atq:Ap aGY tZ:=(Ap.new (aH.jB G31) (aH.hi jc));have jc:=aH.below aC jc axP;have T:=Tt T axP;replace Sv:=aA.mono Sv aJw;replace G31:=aH.mono G31 aJw;obtain ⟨A36,c37,rfl⟩:=aH.form jc;have aJx:=aH.bound jc;obtain ⟨x38,aLV,hm⟩:=bnd hm;obtain ⟨k39,aRe,aZB,aLV⟩:=aU aLV;obtain ⟨b43,rfl⟩:=aH.GU jc (by omega);refine RL.y rfl (Y.indexAddr (m:=k39) (sz:=4) rfl rfl aRe aZB (by kernel_rfl)) ?_;obtain ⟨A44,ZF,rfl⟩:=aA.form Sv;have aRf:=aA.bound Sv;obtain ⟨A46,c47,rfl⟩:=aH.form G31;have a9z:=aH.bound G31;obtain ⟨l49,a48,aZC,aRg,r52⟩:=aA.EN fI Sv;obtain ⟨_,_,_,l54,aRh,a53,aZD,aRi,r57⟩:=aH.Ua aC G31;injection aRh with e1 e2 e3; subst e1 e2 e3;refine RL.anu (k:=k39) (a':=y25) (l:=(l49 ++ l54)) (fp:=((fb (.slice A44 y25.data.length ZF)) ++ aGY)) aC NI rfl rfl rfl jc aLV (Jh ⟨_,_,_,_,_,_,l49,l54,rfl,⟨a48,r52⟩,⟨a53,r57⟩,rfl⟩) (ql aZC aZD aRg aRi aBC) (yO aRg aRi) (Ap.symm (Ap.append atp atq)) (all2 (aA.yP Sv (dB)) (aH.both G31 (dB))) (by kernel_rfl) (fun w58 G59 akd=>?_);have awl:=akd.size;have T:=T.trans (akd.below (by intro b hb; simp at hb; subst hb; exact aH.jB jc _ (aH.row jc rfl)))
  have G59:aH 38 dI 4 w58 w.heap.size (.slice (some ⟨b43,0,none⟩) oD.length c37) (kX oD i11 y25) (tZ ++ ((fb (.slice A44 y25.data.length ZF)) ++ aGY)):=by rw [yc aRe]; exact G59
  refine RL.nil ?_;refine eF (ah ?_);refine au rfl<|aT Dt<|RQ.y rfl (Y.dS rfl rfl (bn (m:=i11) (by omega)))<|aW (.int .i64 (i11+1))<|RQ.nil ?_;exact (ah ⟨g,_,Nat.lt_succ_self _,rfl,⟨(kX oD i11 y25),(i11+1),(.slice (some ⟨b43,0,none⟩) oD.length c37),(tZ ++ ((fb (.slice A44 y25.data.length ZF)) ++ aGY)),dQ,jE,G59,rfl,(by omega),T,(by rw [← d_]; exact hm)⟩⟩)
noncomputable def Cm (nM:(List ak)→Option (List ak)) (iZ:ak→Option ak) (d0:ak):Option ak:=
  ((uO d0.data).bind fun y21=>((nM d0.kids).bind fun Uj=>some (⟨d0.kind,d0.value,y21,Uj⟩:ak)))
set_option maxHeartbeats 2000000 in
theorem abE (nM:(List ak)→Option (List ak)) (iZ:ak→Option ak) (ih0 :∀(d0:List ak) (r:List ak) (hm:nM d0=some r) (v0:Value) (w:World) (hv0:Sl bf 4 w v0 d0),Calls Tryz.prog 21 #[v0] w fun e w'=>(∃(v0:Value) (bs0:List Nat),e=.returned (v0)∧aH 38 dI 4 w' w.heap.size v0 r bs0)∧Below w.heap.size w w') (ih1 :∀(d0:ak) (r:ak) (hm:iZ d0=some r) (v0:Value) (w:World) (hv0:St bf w v0 d0),Calls Tryz.prog 53 #[v0] w fun e w'=>(∃(v0:Value) (v1:Value) (Ag:List Nat),e=.returned (.agg #[.int .i64 r.kind,.int .i64 r.value,v0,v1])∧aA 2 encI 1 w' w.heap.size v0 r.data∧aH 38 dI 4 w' w.heap.size v1 r.kids Ag∧Ap (fb v0) Ag)∧Below w.heap.size w w') :∀(d0:ak) (r:ak) (hm:Cm nM iZ d0=some r) (v0:Value) (w:World) (hv0:St bf w v0 d0),
    Calls Tryz.prog 53 #[v0] w fun e w'=>(∃(v0:Value) (v1:Value) (Ag:List Nat),e=.returned (.agg #[.int .i64 r.kind,.int .i64 r.value,v0,v1])∧aA 2 encI 1 w' w.heap.size v0 r.data∧aH 38 dI 4 w' w.heap.size v1 r.kids Ag∧Ap (fb v0) Ag)∧Below w.heap.size w w':=by
  intro d0 r hm v0 w hv0;obtain ⟨lg,rfl,hRR0⟩:=hv0;obtain ⟨A1,n1,c1,A2,n2,c2,rfl,⟨h1,r1⟩,⟨h2,r2⟩⟩:=(bG hRR0);obtain ⟨rfl,q1⟩:=bI h1 r1;obtain ⟨rfl,q2⟩:=bI h2 r2;have T:=Below.refl w.heap.size w;unfold Cm at hm;refine enter 19 Tryz.func53 rfl rfl rfl ?_;intro f hf;have s0:f 0=.agg #[.int .i64 d0.kind,.int .i64 d0.value,.slice A1 d0.data.length c1,.slice A2 d0.kids.length c2]:=hf 0 _ rfl;refine wp_seq<|bF rfl ?_;refine RL.box rfl s0 (fun w3 B4 hb5 LP=>?_);replace B4:dD w3 w.heap.size 27 #[.int .i64 d0.kind,.int .i64 d0.value,.slice A1 d0.data.length c1,.slice A2 d0.kids.length c2]:=B4;have GB4:w.heap.size≤w.heap.size:=T.size;have T:=Tt T hb5;refine RL.alloc (z:=.agg #[.int .i64 0,.int .i64 0,.slice none 0 0,.slice none 0 0]) rfl (by kernel_rfl) (fun w7 B8 Zc aj_=>?_);replace B8:dD w7 w3.heap.size 38 #[.int .i64 0,.int .i64 0,.slice none 0 0,.slice none 0 0]:=B8;have GB8:w.heap.size≤w3.heap.size:=T.size;have YL:=Nat.ne_of_lt B4.lt;have B4:=aX B4 Zc;have T:=Tt T Zc;refine RL.nil<|ah<|wp_seq<|bF rfl ?_;refine RL.alloc (z:=.agg #[.int .i64 0,.int .i64 0,.slice none 0 0,.slice none 0 0]) rfl (by kernel_rfl) (fun uS gY Ad WV=>?_);replace gY:dD uS w7.heap.size 38 #[.int .i64 0,.int .i64 0,.slice none 0 0,.slice none 0 0]:=gY;have ap_:w.heap.size≤w7.heap.size:=T.size;have YN:=Nat.ne_of_lt B4.lt;have z_:=Nat.ne_of_lt B8.lt;have B4:=aX B4 Ad;have B8:=aX B8 Ad;have T:=Tt T Ad;refine RL.nil<|ah<|wp_seq<|bF rfl<|rC 0 rfl<|I7 (.int .i64 d0.kind) rfl (cu (aj B4 (i:=0) rfl))<|rC 0 rfl ?_;refine RL.store (v:=.int .i64 d0.kind) (cs':=#[.int .i64 d0.kind,.int .i64 0,.slice none 0 0,.slice none 0 0]) rfl rfl rfl gY (by kernel_rfl) (by rfl) (by rfl) (by rfl) (fun w15 jf aGZ=>?_);have amo:=aGZ.size;have B4:=B4.bK aGZ (by intro hin; simp at hin; exact YN hin);have B8:=B8.bK aGZ (by intro hin; simp at hin; exact z_ hin);have T:=T.trans (aGZ.below (by first|(simp; done)|(simp; omega)));refine RL.nil<|ah<|wp_seq<|bF rfl<|rC 1 rfl<|I7 (.int .i64 d0.value) rfl (cu (aj B4 (i:=1) rfl))<|rC 1 rfl ?_;refine RL.store (v:=.int .i64 d0.value) (cs':=#[.int .i64 d0.kind,.int .i64 d0.value,.slice none 0 0,.slice none 0 0]) rfl rfl rfl jf (by kernel_rfl) (by rfl) (by rfl) (by rfl) (fun w18 YM aG0=>?_);have ahd:=aG0.size;have B4:=B4.bK aG0 (by intro hin; simp at hin; exact YN hin);have B8:=B8.bK aG0 (by intro hin; simp at hin; exact z_ hin)
  have T:=T.trans (aG0.below (by first|(simp; done)|(simp; omega)));refine RL.nil<|ah<|wp_seq<|bF rfl<|rC 2 rfl<|I7 (.slice A1 d0.data.length c1) rfl (cu (aj B4 (i:=2) rfl)) ?_;obtain ⟨y21,e22,hm⟩:=bnd hm;refine RL.call rfl (qZ rfl) (by kernel_rfl) ((He d0.data _ e22 _ _ (eY aG h1 r1 T)).mono ?_);rintro _ PS ⟨⟨v23,rfl,K_⟩,Wp⟩;refine ⟨_,rfl,?_⟩;have aws:=Wp.size;have aqf:=T.size;have aRj:=aJ (Ap.new (aA.dU K_) (aI B4.lt));have axQ:=aJ (Ap.new (aA.dU K_) (aI B8.lt));have amx:=aJ (Ap.new (aA.dU K_) (aI YM.lt));have B4:=aX B4 Wp;have B8:=aX B8 Wp;have YM:=aX YM Wp;have T:=Tt T Wp;replace K_:=aA.mono K_ aqf;refine rC 2 rfl ?_;obtain ⟨A28,c29,rfl⟩:=aA.form K_;have aJy:=aA.bound K_;refine RL.store (v:=.slice A28 y21.length c29) (cs':=#[.int .i64 d0.kind,.int .i64 d0.value,.slice A28 y21.length c29,.slice none 0 0]) rfl rfl rfl YM (by kernel_rfl) (by rfl) (by rfl) (by rfl) (fun w30 B31 afZ=>?_);have ahm:=afZ.size;have B4:=B4.bK afZ (by intro hin; simp at hin; exact YN hin);have B8:=B8.bK afZ (by intro hin; simp at hin; exact z_ hin);have K_:=aA.only K_ afZ amx;have T:=T.trans (afZ.below (by first|(simp; done)|(simp; omega)));refine RL.nil<|ah<|wp_seq<|bF rfl<|rC 3 rfl<|I7 (.slice A2 d0.kids.length c2) rfl (cu (aj B4 (i:=3) rfl)) ?_;obtain ⟨Uj,e34,hm⟩:=bnd hm;refine RL.call rfl (qZ rfl) (by kernel_rfl) ((ih0 d0.kids _ e34 _ _ (eY aK h2 r2 T)).mono ?_);rintro _ w39 ⟨⟨v35,Uu,rfl,I9⟩,SK⟩;refine ⟨_,rfl,?_⟩;have ap5:=SK.size;have aBD:=T.size;have aRk:Ap Uu [w.heap.size]:=(Ap.new (aH.jB I9) (aI B4.lt));have axR:Ap Uu [w3.heap.size]:=(Ap.new (aH.jB I9) (aI B8.lt));have axS:Ap Uu [w7.heap.size]:=(Ap.new (aH.jB I9) (aI B31.lt));have aBE:Ap Uu (fb (.slice A28 y21.length c29)):=(Ap.new (aH.jB I9) (aA.je K_));have B4:=aX B4 SK;have B8:=aX B8 SK;have B31:=aX B31 SK;have K_:=aA.below K_ SK;have T:=Tt T SK;replace I9:=aH.mono I9 aBD;refine rC 3 rfl ?_;obtain ⟨A41,MQ,rfl⟩:=aH.form I9;have aBF:=aH.bound I9;refine RL.store (v:=.slice A41 Uj.length MQ) (cs':=#[.int .i64 d0.kind,.int .i64 d0.value,.slice A28 y21.length c29,.slice A41 Uj.length MQ]) rfl rfl rfl B31 (by kernel_rfl) (by rfl) (by rfl) (by rfl) (fun Sr B44 QI=>?_);have aBG:=QI.size;have B4:=B4.bK QI (by intro hin; simp at hin; exact YN hin)
  have B8:=B8.bK QI (by intro hin; simp at hin; exact z_ hin);have K_:=aA.only K_ QI amx;have I9:=aH.only aC I9 QI (Ap.one axS);have T:=T.trans (QI.below (by first|(simp; done)|(simp; omega)));refine RL.nil<|ah<|wp_seq<|bF rfl<|Sm [.int .i64 d0.kind,.int .i64 d0.value,.slice A28 y21.length c29,.slice A41 Uj.length MQ] rfl (cells4 (cu (aj B44 (i:=0) rfl)) (cu (aj B44 (i:=1) rfl)) (cu (aj B44 (i:=2) rfl)) (cu (aj B44 (i:=3) rfl))) ?_;refine RL.store (v:=.agg #[.int .i64 d0.kind,.int .i64 d0.value,.slice A28 y21.length c29,.slice A41 Uj.length MQ]) (cs':=#[.int .i64 d0.kind,.int .i64 d0.value,.slice A28 y21.length c29,.slice A41 Uj.length MQ]) rfl rfl rfl B8 (by kernel_rfl) (by rfl) (by rfl) (by rfl) (fun w46 B47 Uw=>?_);have aAN:=Uw.size;have B44:=B44.bK Uw (by intro hin; simp at hin; exact z_.symm hin);have K_:=aA.only K_ Uw axQ;have I9:=aH.only aC I9 Uw (Ap.one axR);have T:=T.trans (Uw.below (by first|(simp; done)|(simp; omega)));refine RL.nil<|ah<|wp_ret ?_;obtain rfl:=sj hm;exact (WJ (cs:=[.int .i64 d0.kind,.int .i64 d0.value,.slice A28 y21.length c29,.slice A41 Uj.length MQ]) rfl rfl rfl (by kernel_rfl) (n_ B47) ⟨⟨_,_,_,rfl,K_,I9,(Ap.symm aBE)⟩,T⟩)
noncomputable def wC:Nat→((List ak)→Option (List ak)) × (ak→Option ak)
 |0=>(fun _=>none,fun _=>none)
 |dJ+1=>(AU (wC dJ).1 (wC dJ).2,Cm (wC dJ).1 (wC dJ).2)
noncomputable def w_ (dJ:Nat):(List ak)→Option (List ak):=(wC dJ).1
noncomputable def vT (dJ:Nat):ak→Option ak:=(wC dJ).2
theorem N_ :∀dJ:Nat,(∀(d0:List ak) (r:List ak) (hm:w_ dJ d0=some r) (v0:Value) (w:World) (hv0:Sl bf 4 w v0 d0),Calls Tryz.prog 21 #[v0] w fun e w'=>(∃(v0:Value) (bs0:List Nat),e=.returned (v0)∧aH 38 dI 4 w' w.heap.size v0 r bs0)∧Below w.heap.size w w')∧(∀(d0:ak) (r:ak) (hm:vT dJ d0=some r) (v0:Value) (w:World) (hv0:St bf w v0 d0),Calls Tryz.prog 53 #[v0] w fun e w'=>(∃(v0:Value) (v1:Value) (Ag:List Nat),e=.returned (.agg #[.int .i64 r.kind,.int .i64 r.value,v0,v1])∧aA 2 encI 1 w' w.heap.size v0 r.data∧aH 38 dI 4 w' w.heap.size v1 r.kids Ag∧Ap (fb v0) Ag)∧Below w.heap.size w w'):=by
 intro dJ
 induction dJ with
 |zero=>exact ⟨(fun _ r hm=>by have h0:(none:Option _)=some r:=hm; cases h0),(fun _ r hm=>by have h0:(none:Option _)=some r:=hm; cases h0)⟩
 |succ dJ ih=>exact ⟨aaH _ _ (ih).1 (ih).2,abE _ _ (ih).1 (ih).2⟩
theorem aea (dJ : Nat) : ∀ (d0 : List ak) (r : List ak) (hm : w_ dJ d0 = some r) (v0 : Value) (w : World) (hv0 : Sl bf 4 w v0 d0), Calls Tryz.prog 21 #[v0] w fun e w' => (∃ (v0 : Value) (bs0 : List Nat), e = .returned (v0) ∧ aH 38 dI 4 w' w.heap.size v0 r bs0) ∧ Below w.heap.size w w' := (N_ dJ).1
theorem aga (dJ : Nat) : ∀ (d0 : ak) (r : ak) (hm : vT dJ d0 = some r) (v0 : Value) (w : World) (hv0 : St bf w v0 d0), Calls Tryz.prog 53 #[v0] w fun e w' => (∃ (v0 : Value) (v1 : Value) (Ag : List Nat), e = .returned (.agg #[.int .i64 r.kind, .int .i64 r.value, v0, v1]) ∧ aA 2 encI 1 w' w.heap.size v0 r.data ∧ aH 38 dI 4 w' w.heap.size v1 r.kids Ag ∧ Ap (fb v0) Ag) ∧ Below w.heap.size w w' := (N_ dJ).2
noncomputable def JY (d0:dY):Option dY:=
  ((w_ (SizeOf.sizeOf d0.defs) d0.defs).bind fun uN=>some (⟨uN⟩:dY))
set_option maxHeartbeats 2000000 in
theorem agb (d0:dY) (r:dY) (hm:JY d0=some r) (v0:Value) (w:World) (hv0:St iI w v0 d0) :
    Calls Tryz.prog 7 #[v0] w fun e w'=>(∃(v0:Value) (bs0:List Nat),e=.returned (.agg #[v0])∧aH 38 dI 4 w' w.heap.size v0 r.defs bs0)∧Below w.heap.size w w':=by
  obtain ⟨lg,rfl,⟨A1,n1,c1,rfl,⟨h1,r1⟩⟩⟩:=hv0;obtain ⟨rfl,q1⟩:=bI h1 r1;have T:=Below.refl w.heap.size w;unfold JY at hm;refine enter 9 Tryz.func7 rfl rfl rfl ?_;intro f hf;have s0:f 0=.agg #[.slice A1 d0.defs.length c1]:=hf 0 _ rfl;refine wp_seq<|bF rfl ?_;refine RL.box rfl s0 (fun w2 B3 hb4 axz=>?_);replace B3:dD w2 w.heap.size 24 #[.slice A1 d0.defs.length c1]:=B3;have GB3:w.heap.size≤w.heap.size:=T.size;have T:=Tt T hb4;refine RL.alloc (z:=.agg #[.slice none 0 0]) rfl (by kernel_rfl) (fun w6 B7 hb8 axO=>?_);replace B7:dD w6 w2.heap.size 48 #[.slice none 0 0]:=B7;have GB7:w.heap.size≤w2.heap.size:=T.size;have aRl:=Nat.ne_of_lt B3.lt;have B3:=aX B3 hb8;have T:=Tt T hb8;refine RL.nil<|ah<|wp_seq<|bF rfl ?_;refine RL.alloc (z:=.agg #[.slice none 0 0]) rfl (by kernel_rfl) (fun w10 B11 Ht apY=>?_);replace B11:dD w10 w6.heap.size 48 #[.slice none 0 0]:=B11;have aLr:w.heap.size≤w6.heap.size:=T.size;have axT:=Nat.ne_of_lt B3.lt;have YO:=Nat.ne_of_lt B7.lt;have B3:=aX B3 Ht;have B7:=aX B7 Ht;have T:=Tt T Ht;refine RL.nil<|ah<|wp_seq<|bF rfl<|rC 0 rfl<|I7 (.slice A1 d0.defs.length c1) rfl (cu (aj B3 (i:=0) rfl)) ?_;obtain ⟨uN,e15,hm⟩:=bnd hm;refine RL.call rfl (qZ rfl) (by kernel_rfl) ((aea (SizeOf.sizeOf d0.defs) d0.defs _ e15 _ _ (eY aK h1 r1 T)).mono ?_);rintro _ w20 ⟨⟨v16,aLW,rfl,VB⟩,adY⟩;refine ⟨_,rfl,?_⟩;have aA8:=adY.size;have aRm:=T.size;have aRn:Ap aLW [w.heap.size]:=(Ap.new (aH.jB VB) (aI B3.lt));have ahy:Ap aLW [w2.heap.size]:=(Ap.new (aH.jB VB) (aI B7.lt));have aeb:Ap aLW [w6.heap.size]:=(Ap.new (aH.jB VB) (aI B11.lt));have B3:=aX B3 adY;have B7:=aX B7 adY;have B11:=aX B11 adY;have T:=Tt T adY;replace VB:=aH.mono VB aRm;refine rC 0 rfl ?_;obtain ⟨A22,c23,rfl⟩:=aH.form VB;have a9A:=aH.bound VB;refine RL.store (v:=.slice A22 uN.length c23) (cs':=#[.slice A22 uN.length c23]) rfl rfl rfl B11 (by kernel_rfl) (by rfl) (by rfl) (by rfl) (fun w24 B25 aec=>?_);have afl:=aec.size;have B3:=B3.bK aec (by intro hin; simp at hin; exact axT hin);have B7:=B7.bK aec (by intro hin; simp at hin; exact YO hin);have VB:=aH.only aC VB aec (Ap.one aeb);have T:=T.trans (aec.below (by first|(simp; done)|(simp; omega)));refine RL.nil<|ah<|wp_seq<|bF rfl<|Sm [.slice A22 uN.length c23] rfl (FD (cu (aj B25 (i:=0) rfl))) ?_;refine RL.store (v:=.agg #[.slice A22 uN.length c23]) (cs':=#[.slice A22 uN.length c23]) rfl rfl rfl B7 (by kernel_rfl) (by rfl) (by rfl) (by rfl) (fun w27 B28 ap9=>?_)
  have aQR:=ap9.size;have B25:=B25.bK ap9 (by intro hin; simp at hin; exact YO.symm hin);have VB:=aH.only aC VB ap9 (Ap.one ahy);have T:=T.trans (ap9.below (by first|(simp; done)|(simp; omega)));refine RL.nil<|ah<|wp_ret ?_;obtain rfl:=sj hm;exact (WJ (cs:=[.slice A22 uN.length c23]) rfl rfl rfl (by kernel_rfl) (n_ B28) ⟨⟨_,_,rfl,VB⟩,T⟩)
noncomputable def sN (d0:ay):Option ay:=
  ((vT (SizeOf.sizeOf (⟨d0.term.kind,d0.term.value,d0.term.data,d0.term.kids⟩:ak)) (⟨d0.term.kind,d0.term.value,d0.term.data,d0.term.kids⟩:ak)).bind fun PV=>((uO d0.env).bind fun y34=>some (⟨(⟨PV.kind,PV.value,PV.data,PV.kids⟩:ak),y34⟩:ay)))
set_option maxHeartbeats 2000000 in
theorem FN (d0:ay) (r:ay) (hm:sN d0=some r) (v0:Value) (w:World) (hv0:St dM w v0 d0) :
    Calls Tryz.prog 22 #[v0] w fun e w'=>(∃(v0:Value) (v1:Value) (Ag:List Nat) (v2:Value),e=.returned (.agg #[.int .i64 r.term.kind,.int .i64 r.term.value,v0,v1,v2])∧aA 2 encI 1 w' w.heap.size v0 r.term.data∧aH 38 dI 4 w' w.heap.size v1 r.term.kids Ag∧aA 2 encI 1 w' w.heap.size v2 r.env∧Ap (fb v0) Ag∧Dj v0 v2∧Ap Ag (fb v2))∧Below w.heap.size w w':=by
  obtain ⟨lg,rfl,⟨A1,n1,c1,A2,n2,c2,A3,n3,c3,rfl,⟨h1,r1⟩,⟨h2,r2⟩,⟨h3,r3⟩⟩⟩:=hv0;obtain ⟨rfl,q1⟩:=bI h1 r1;obtain ⟨rfl,q2⟩:=bI h2 r2;obtain ⟨rfl,q3⟩:=bI h3 r3;have T:=Below.refl w.heap.size w;unfold sN at hm;refine enter 13 Tryz.func22 rfl rfl rfl ?_;intro f hf;have s0:f 0=.agg #[.int .i64 d0.term.kind,.int .i64 d0.term.value,.slice A1 d0.term.data.length c1,.slice A2 d0.term.kids.length c2,.slice A3 d0.env.length c3]:=hf 0 _ rfl;refine wp_seq<|bF rfl ?_;refine RL.box rfl s0 (fun w4 B5 hb6 aha=>?_);replace B5:dD w4 w.heap.size 29 #[.int .i64 d0.term.kind,.int .i64 d0.term.value,.slice A1 d0.term.data.length c1,.slice A2 d0.term.kids.length c2,.slice A3 d0.env.length c3]:=B5;have GB5:w.heap.size≤w.heap.size:=T.size;have T:=Tt T hb6;refine RL.alloc (z:=.agg #[.int .i64 0,.int .i64 0,.slice none 0 0,.slice none 0 0,.slice none 0 0]) rfl (by kernel_rfl) (fun w8 B9 Au aAB=>?_);replace B9:dD w8 w4.heap.size 40 #[.int .i64 0,.int .i64 0,.slice none 0 0,.slice none 0 0,.slice none 0 0]:=B9;have GB9:w.heap.size≤w4.heap.size:=T.size;have aed:=Nat.ne_of_lt B5.lt;have B5:=aX B5 Au;have T:=Tt T Au;refine RL.nil<|ah<|wp_seq<|bF rfl ?_;refine RL.alloc (z:=.agg #[.int .i64 0,.int .i64 0,.slice none 0 0,.slice none 0 0,.slice none 0 0]) rfl (by kernel_rfl) (fun w12 B13 LQ aJz=>?_);replace B13:dD w12 w8.heap.size 40 #[.int .i64 0,.int .i64 0,.slice none 0 0,.slice none 0 0,.slice none 0 0]:=B13;have aZE:w.heap.size≤w8.heap.size:=T.size;have SY:=Nat.ne_of_lt B5.lt;have FP:=Nat.ne_of_lt B9.lt;have B5:=aX B5 LQ;have B9:=aX B9 LQ;have T:=Tt T LQ;refine RL.nil<|ah<|wp_seq<|bF rfl<|rC 0 rfl<|Sm [.int .i64 d0.term.kind,.int .i64 d0.term.value,.slice A1 d0.term.data.length c1,.slice A2 d0.term.kids.length c2] rfl (cells4 (cu (aj B5 (i:=0) rfl)) (cu (aj B5 (i:=1) rfl)) (cu (aj B5 (i:=2) rfl)) (cu (aj B5 (i:=3) rfl))) ?_;obtain ⟨PV,e17,hm⟩:=bnd hm;refine RL.call rfl (qZ rfl) (by kernel_rfl) ((aga (SizeOf.sizeOf (⟨d0.term.kind,d0.term.value,d0.term.data,d0.term.kids⟩:ak)) (⟨d0.term.kind,d0.term.value,d0.term.data,d0.term.kids⟩:ak) _ e17 _ _ (fE (R:=bf) (dR ⟨_,_,_,_,_,_,rfl,⟨aY.now aG h1 (dB) T,r1⟩,⟨aY.now aK h2 (dB) T,r2⟩⟩))).mono ?_);rintro _ w25 ⟨⟨v18,v21,aG1,rfl,G19,G22,aBH⟩,abl⟩;refine ⟨_,rfl,?_⟩;have aI4:=abl.size;have aJA:=T.size;have aRo:=aJ (Ap.new (aA.dU G19) (aI B5.lt));have axU:=aJ (Ap.new (aA.dU G19) (aI B9.lt))
  have amy:=aJ (Ap.new (aA.dU G19) (aI B13.lt));have aBI:Ap aG1 [w.heap.size]:=(Ap.new (aH.jB G22) (aI B5.lt));have aee:Ap aG1 [w4.heap.size]:=(Ap.new (aH.jB G22) (aI B9.lt));have YP:Ap aG1 [w8.heap.size]:=(Ap.new (aH.jB G22) (aI B13.lt));have B5:=aX B5 abl;have B9:=aX B9 abl;have B13:=aX B13 abl;have T:=Tt T abl;replace G19:=aA.mono G19 aJA;replace G22:=aH.mono G22 aJA;refine rC 0 rfl ?_;obtain ⟨A27,c28,rfl⟩:=aA.form G19;have a9B:=aA.bound G19;obtain ⟨A29,PU,rfl⟩:=aH.form G22;have aRp:=aH.bound G22;refine RL.store (v:=.agg #[.int .i64 PV.kind,.int .i64 PV.value,.slice A27 PV.data.length c28,.slice A29 PV.kids.length PU]) (cs':=#[.int .i64 PV.kind,.int .i64 PV.value,.slice A27 PV.data.length c28,.slice A29 PV.kids.length PU,.slice none 0 0]) rfl rfl rfl B13 (by kernel_rfl) (by rfl) (by rfl) (by rfl) (fun w31 B32 anw=>?_);have apV:=anw.size;have B5:=B5.bK anw (by intro hin; simp at hin; exact SY hin);have B9:=B9.bK anw (by intro hin; simp at hin; exact FP hin);have G19:=aA.only G19 anw amy;have G22:=aH.only aC G22 anw (Ap.one YP);have T:=T.trans (anw.below (by first|(simp; done)|(simp; omega)));refine RL.nil<|ah<|wp_seq<|bF rfl<|rC 4 rfl<|I7 (.slice A3 d0.env.length c3) rfl (cu (aj B5 (i:=4) rfl)) ?_;obtain ⟨y34,e35,hm⟩:=bnd hm;refine RL.call rfl (qZ rfl) (by kernel_rfl) ((He d0.env _ e35 _ _ (eY aG h3 r3 T)).mono ?_);rintro _ w39 ⟨⟨v36,rfl,G37⟩,SK⟩;refine ⟨_,rfl,?_⟩;have ap5:=SK.size;have aBD:=T.size;have aRq:=aJ (Ap.new (aA.dU G37) (aI B5.lt));have axV:=aJ (Ap.new (aA.dU G37) (aI B9.lt));have axW:=aJ (Ap.new (aA.dU G37) (aI B32.lt));have aBJ:=Ap.dj (Ap.new (aA.dU G37) (aA.je G19));have aBK:Ap (fb v36) aG1:=(Ap.new (aA.dU G37) (aH.hi G22));have B5:=aX B5 SK;have B9:=aX B9 SK;have B32:=aX B32 SK;have G19:=aA.below G19 SK;have G22:=aH.below aC G22 SK;have T:=Tt T SK;replace G37:=aA.mono G37 aBD;refine rC 4 rfl ?_;obtain ⟨A41,MQ,rfl⟩:=aA.form G37;have aBF:=aA.bound G37;refine RL.store (v:=.slice A41 y34.length MQ) (cs':=#[.int .i64 PV.kind,.int .i64 PV.value,.slice A27 PV.data.length c28,.slice A29 PV.kids.length PU,.slice A41 y34.length MQ]) rfl rfl rfl B32 (by kernel_rfl) (by rfl) (by rfl) (by rfl) (fun Sr B44 QI=>?_);have aBG:=QI.size;have B5:=B5.bK QI (by intro hin; simp at hin; exact SY hin)
  have B9:=B9.bK QI (by intro hin; simp at hin; exact FP hin);have G19:=aA.only G19 QI amy;have G22:=aH.only aC G22 QI (Ap.one YP);have G37:=aA.only G37 QI axW;have T:=T.trans (QI.below (by first|(simp; done)|(simp; omega)));refine RL.nil<|ah<|wp_seq<|bF rfl<|Sm [.int .i64 PV.kind,.int .i64 PV.value,.slice A27 PV.data.length c28,.slice A29 PV.kids.length PU,.slice A41 y34.length MQ] rfl (cells5 (cu (aj B44 (i:=0) rfl)) (cu (aj B44 (i:=1) rfl)) (cu (aj B44 (i:=2) rfl)) (cu (aj B44 (i:=3) rfl)) (cu (aj B44 (i:=4) rfl))) ?_;refine RL.store (v:=.agg #[.int .i64 PV.kind,.int .i64 PV.value,.slice A27 PV.data.length c28,.slice A29 PV.kids.length PU,.slice A41 y34.length MQ]) (cs':=#[.int .i64 PV.kind,.int .i64 PV.value,.slice A27 PV.data.length c28,.slice A29 PV.kids.length PU,.slice A41 y34.length MQ]) rfl rfl rfl B9 (by kernel_rfl) (by rfl) (by rfl) (by rfl) (fun w46 B47 Uw=>?_);have aAN:=Uw.size;have B44:=B44.bK Uw (by intro hin; simp at hin; exact FP.symm hin);have G19:=aA.only G19 Uw axU;have G22:=aH.only aC G22 Uw (Ap.one aee);have G37:=aA.only G37 Uw axV;have T:=T.trans (Uw.below (by first|(simp; done)|(simp; omega)));refine RL.nil<|ah<|wp_ret ?_;obtain rfl:=sj hm;exact (WJ (cs:=[.int .i64 PV.kind,.int .i64 PV.value,.slice A27 PV.data.length c28,.slice A29 PV.kids.length PU,.slice A41 y34.length MQ]) rfl rfl rfl (by kernel_rfl) (n_ B47) ⟨⟨_,_,_,_,rfl,G19,G22,G37,aBH,(Ap.dj (Ap.symm (Dj.ap aBJ))),(Ap.symm aBK)⟩,T⟩)
noncomputable def DL (d0:aO):Option aO:=
  ((uO d0.data).bind fun y23=>((sN (⟨(⟨d0.closure.term.kind,d0.closure.term.value,d0.closure.term.data,d0.closure.term.kids⟩:ak),d0.closure.env⟩:ay)).bind fun WE=>some (⟨d0.kind,d0.value,y23,(⟨(⟨WE.term.kind,WE.term.value,WE.term.data,WE.term.kids⟩:ak),WE.env⟩:ay)⟩:aO)))
set_option maxHeartbeats 2000000 in
theorem aef (d0:aO) (r:aO) (hm:DL d0=some r) (v0:Value) (w:World) (hv0:St nS w v0 d0) :
    Calls Tryz.prog 55 #[v0] w fun e w'=>(∃(v0:Value) (v1:Value) (v2:Value) (bs2:List Nat) (v3:Value),e=.returned (.agg #[.int .i64 r.kind,.int .i64 r.value,v0,.int .i64 r.closure.term.kind,.int .i64 r.closure.term.value,v1,v2,v3])∧aA 2 encI 1 w' w.heap.size v0 r.data∧aA 2 encI 1 w' w.heap.size v1 r.closure.term.data∧aH 38 dI 4 w' w.heap.size v2 r.closure.term.kids bs2∧aA 2 encI 1 w' w.heap.size v3 r.closure.env∧Dj v0 v1∧Ap (fb v0) bs2∧Ap (fb v1) bs2∧Dj v0 v3∧Dj v1 v3∧Ap bs2 (fb v3))∧Below w.heap.size w w':=by
  obtain ⟨lg,rfl,⟨A1,n1,c1,A2,n2,c2,A3,n3,c3,A4,n4,c4,rfl,⟨h1,r1⟩,⟨h2,r2⟩,⟨h3,r3⟩,⟨h4,r4⟩⟩⟩:=hv0;obtain ⟨rfl,q1⟩:=bI h1 r1;obtain ⟨rfl,q2⟩:=bI h2 r2;obtain ⟨rfl,q3⟩:=bI h3 r3;obtain ⟨rfl,q4⟩:=bI h4 r4;have T:=Below.refl w.heap.size w;unfold DL at hm;refine enter 19 Tryz.func55 rfl rfl rfl ?_;intro f hf;have s0:f 0=.agg #[.int .i64 d0.kind,.int .i64 d0.value,.slice A1 d0.data.length c1,.int .i64 d0.closure.term.kind,.int .i64 d0.closure.term.value,.slice A2 d0.closure.term.data.length c2,.slice A3 d0.closure.term.kids.length c3,.slice A4 d0.closure.env.length c4]:=hf 0 _ rfl;refine wp_seq<|bF rfl ?_;refine RL.box rfl s0 (fun w5 B6 hb7 aAn=>?_);replace B6:dD w5 w.heap.size 90 #[.int .i64 d0.kind,.int .i64 d0.value,.slice A1 d0.data.length c1,.int .i64 d0.closure.term.kind,.int .i64 d0.closure.term.value,.slice A2 d0.closure.term.data.length c2,.slice A3 d0.closure.term.kids.length c3,.slice A4 d0.closure.env.length c4]:=B6;have GB6:w.heap.size≤w.heap.size:=T.size;have T:=Tt T hb7;refine RL.alloc (z:=.agg #[.int .i64 0,.int .i64 0,.slice none 0 0,.int .i64 0,.int .i64 0,.slice none 0 0,.slice none 0 0,.slice none 0 0]) rfl (by kernel_rfl) (fun w9 B10 Bo axA=>?_);replace B10:dD w9 w5.heap.size 77 #[.int .i64 0,.int .i64 0,.slice none 0 0,.int .i64 0,.int .i64 0,.slice none 0 0,.slice none 0 0,.slice none 0 0]:=B10;have aLj:w.heap.size≤w5.heap.size:=T.size;have amq:=Nat.ne_of_lt B6.lt;have B6:=aX B6 Bo;have T:=Tt T Bo;refine RL.nil<|ah<|wp_seq<|bF rfl ?_;refine RL.alloc (z:=.agg #[.int .i64 0,.int .i64 0,.slice none 0 0,.int .i64 0,.int .i64 0,.slice none 0 0,.slice none 0 0,.slice none 0 0]) rfl (by kernel_rfl) (fun w13 B14 PL apZ=>?_);replace B14:dD w13 w9.heap.size 77 #[.int .i64 0,.int .i64 0,.slice none 0 0,.int .i64 0,.int .i64 0,.slice none 0 0,.slice none 0 0,.slice none 0 0]:=B14;have aZu:w.heap.size≤w9.heap.size:=T.size;have YQ:=Nat.ne_of_lt B6.lt;have Jo:=Nat.ne_of_lt B10.lt;have B6:=aX B6 PL;have B10:=aX B10 PL;have T:=Tt T PL;refine RL.nil<|ah<|wp_seq<|bF rfl<|rC 0 rfl<|I7 (.int .i64 d0.kind) rfl (cu (aj B6 (i:=0) rfl))<|rC 0 rfl ?_;refine RL.store (v:=.int .i64 d0.kind) (cs':=#[.int .i64 d0.kind,.int .i64 0,.slice none 0 0,.int .i64 0,.int .i64 0,.slice none 0 0,.slice none 0 0,.slice none 0 0]) rfl rfl rfl B14 (by kernel_rfl) (by rfl) (by rfl) (by rfl) (fun w17 B18 aG2=>?_);have awh:=aG2.size;have B6:=B6.bK aG2 (by intro hin; simp at hin; exact YQ hin)
  have B10:=B10.bK aG2 (by intro hin; simp at hin; exact Jo hin);have T:=T.trans (aG2.below (by first|(simp; done)|(simp; omega)));refine RL.nil<|ah<|wp_seq<|bF rfl<|rC 1 rfl<|I7 (.int .i64 d0.value) rfl (cu (aj B6 (i:=1) rfl))<|rC 1 rfl ?_;refine RL.store (v:=.int .i64 d0.value) (cs':=#[.int .i64 d0.kind,.int .i64 d0.value,.slice none 0 0,.int .i64 0,.int .i64 0,.slice none 0 0,.slice none 0 0,.slice none 0 0]) rfl rfl rfl B18 (by kernel_rfl) (by rfl) (by rfl) (by rfl) (fun w20 B21 aG3=>?_);have aA8:=aG3.size;have B6:=B6.bK aG3 (by intro hin; simp at hin; exact YQ hin);have B10:=B10.bK aG3 (by intro hin; simp at hin; exact Jo hin);have T:=T.trans (aG3.below (by first|(simp; done)|(simp; omega)));refine RL.nil<|ah<|wp_seq<|bF rfl<|rC 2 rfl<|I7 (.slice A1 d0.data.length c1) rfl (cu (aj B6 (i:=2) rfl)) ?_;obtain ⟨y23,e24,hm⟩:=bnd hm;refine RL.call rfl (qZ rfl) (by kernel_rfl) ((He d0.data _ e24 _ _ (eY aG h1 r1 T)).mono ?_);rintro _ w28 ⟨⟨v25,rfl,La⟩,aj3⟩;refine ⟨_,rfl,?_⟩;have aP3:=aj3.size;have aRr:=T.size;have aRs:=aJ (Ap.new (aA.dU La) (aI B6.lt));have axX:=aJ (Ap.new (aA.dU La) (aI B10.lt));have amz:=aJ (Ap.new (aA.dU La) (aI B21.lt));have B6:=aX B6 aj3;have B10:=aX B10 aj3;have B21:=aX B21 aj3;have T:=Tt T aj3;replace La:=aA.mono La aRr;refine rC 2 rfl ?_;obtain ⟨A30,c31,rfl⟩:=aA.form La;have aRt:=aA.bound La;refine RL.store (v:=.slice A30 y23.length c31) (cs':=#[.int .i64 d0.kind,.int .i64 d0.value,.slice A30 y23.length c31,.int .i64 0,.int .i64 0,.slice none 0 0,.slice none 0 0,.slice none 0 0]) rfl rfl rfl B21 (by kernel_rfl) (by rfl) (by rfl) (by rfl) (fun w32 B33 aBL=>?_);have aJe:=aBL.size;have B6:=B6.bK aBL (by intro hin; simp at hin; exact YQ hin);have B10:=B10.bK aBL (by intro hin; simp at hin; exact Jo hin);have La:=aA.only La aBL amz;have T:=T.trans (aBL.below (by first|(simp; done)|(simp; omega)));refine RL.nil<|ah<|wp_seq<|bF rfl<|rC 3 rfl<|Sm [.int .i64 d0.closure.term.kind,.int .i64 d0.closure.term.value,.slice A2 d0.closure.term.data.length c2,.slice A3 d0.closure.term.kids.length c3,.slice A4 d0.closure.env.length c4] rfl (cells5 (cu (aj B6 (i:=3) rfl)) (cu (aj B6 (i:=4) rfl)) (cu (aj B6 (i:=5) rfl)) (cu (aj B6 (i:=6) rfl)) (cu (aj B6 (i:=7) rfl))) ?_;obtain ⟨WE,e36,hm⟩:=bnd hm;refine RL.call rfl (qZ rfl) (by kernel_rfl) ((FN (⟨(⟨d0.closure.term.kind,d0.closure.term.value,d0.closure.term.data,d0.closure.term.kids⟩:ak),d0.closure.env⟩:ay) _ e36 _ _ (fE (R:=dM) ⟨_,_,_,_,_,_,_,_,_,rfl,⟨aY.now aG h2 (dB) T,r2⟩,⟨aY.now aK h3 (dB) T,r3⟩,⟨aY.now aG h4 (dB) T,r4⟩⟩)).mono ?_)
  rintro _ w47 ⟨⟨v37,v40,aG4,v44,rfl,G38,G41,G45,aBM,aBN,aBO⟩,hb48⟩;refine ⟨_,rfl,?_⟩;have awz:=hb48.size;have Xf:=T.size;have aRu:=aJ (Ap.new (aA.dU G38) (aI B6.lt));have axY:=aJ (Ap.new (aA.dU G38) (aI B10.lt));have axZ:=aJ (Ap.new (aA.dU G38) (aI B33.lt));have aBP:=Ap.dj (Ap.new (aA.dU G38) (aA.je La));have aRv:Ap aG4 [w.heap.size]:=(Ap.new (aH.jB G41) (aI B6.lt));have ax0:Ap aG4 [w5.heap.size]:=(Ap.new (aH.jB G41) (aI B10.lt));have ax1:Ap aG4 [w9.heap.size]:=(Ap.new (aH.jB G41) (aI B33.lt));have aBQ:Ap aG4 (fb (.slice A30 y23.length c31)):=(Ap.new (aH.jB G41) (aA.je La));have aRw:=aJ (Ap.new (aA.dU G45) (aI B6.lt));have ax2:=aJ (Ap.new (aA.dU G45) (aI B10.lt));have ax3:=aJ (Ap.new (aA.dU G45) (aI B33.lt));have aBR:=Ap.dj (Ap.new (aA.dU G45) (aA.je La));have B6:=aX B6 hb48;have B10:=aX B10 hb48;have B33:=aX B33 hb48;have La:=aA.below La hb48;have T:=Tt T hb48;replace G38:=aA.mono G38 Xf;replace G41:=aH.mono G41 Xf;replace G45:=aA.mono G45 Xf;refine rC 3 rfl ?_;obtain ⟨Ws,PX,rfl⟩:=aA.form G38;have aqg:=aA.bound G38;obtain ⟨A51,JR,rfl⟩:=aH.form G41;have aBS:=aH.bound G41;obtain ⟨Zi,c54,rfl⟩:=aA.form G45;have aBT:=aA.bound G45;refine RL.store (v:=.agg #[.int .i64 WE.term.kind,.int .i64 WE.term.value,.slice Ws WE.term.data.length PX,.slice A51 WE.term.kids.length JR,.slice Zi WE.env.length c54]) (cs':=#[.int .i64 d0.kind,.int .i64 d0.value,.slice A30 y23.length c31,.int .i64 WE.term.kind,.int .i64 WE.term.value,.slice Ws WE.term.data.length PX,.slice A51 WE.term.kids.length JR,.slice Zi WE.env.length c54]) rfl rfl rfl B33 (by kernel_rfl) (by rfl) (by rfl) (by rfl) (fun w55 B56 Xg=>?_);have aA1:=Xg.size;have B6:=B6.bK Xg (by intro hin; simp at hin; exact YQ hin);have B10:=B10.bK Xg (by intro hin; simp at hin; exact Jo hin);have La:=aA.only La Xg amz;have G38:=aA.only G38 Xg axZ;have G41:=aH.only aC G41 Xg (Ap.one ax1);have G45:=aA.only G45 Xg ax3;have T:=T.trans (Xg.below (by first|(simp; done)|(simp; omega)));refine RL.nil<|ah<|wp_seq<|bF rfl<|Sm [.int .i64 d0.kind,.int .i64 d0.value,.slice A30 y23.length c31,.int .i64 WE.term.kind,.int .i64 WE.term.value,.slice Ws WE.term.data.length PX,.slice A51 WE.term.kids.length JR,.slice Zi WE.env.length c54] rfl (QC (cu (aj B56 (i:=0) rfl)) (cu (aj B56 (i:=1) rfl)) (cu (aj B56 (i:=2) rfl)) (cu (aj B56 (i:=3) rfl)) (cu (aj B56 (i:=4) rfl)) (cu (aj B56 (i:=5) rfl)) (cu (aj B56 (i:=6) rfl)) (cu (aj B56 (i:=7) rfl))) ?_
  refine RL.store (v:=.agg #[.int .i64 d0.kind,.int .i64 d0.value,.slice A30 y23.length c31,.int .i64 WE.term.kind,.int .i64 WE.term.value,.slice Ws WE.term.data.length PX,.slice A51 WE.term.kids.length JR,.slice Zi WE.env.length c54]) (cs':=#[.int .i64 d0.kind,.int .i64 d0.value,.slice A30 y23.length c31,.int .i64 WE.term.kind,.int .i64 WE.term.value,.slice Ws WE.term.data.length PX,.slice A51 WE.term.kids.length JR,.slice Zi WE.env.length c54]) rfl rfl rfl B10 (by kernel_rfl) (by rfl) (by rfl) (by rfl) (fun w58 B59 akd=>?_);have awl:=akd.size;have B56:=B56.bK akd (by intro hin; simp at hin; exact Jo.symm hin);have La:=aA.only La akd axX;have G38:=aA.only G38 akd axY;have G41:=aH.only aC G41 akd (Ap.one ax0);have G45:=aA.only G45 akd ax2;have T:=T.trans (akd.below (by first|(simp; done)|(simp; omega)));refine RL.nil<|ah<|wp_ret ?_;obtain rfl:=sj hm;exact (WJ (cs:=[.int .i64 d0.kind,.int .i64 d0.value,.slice A30 y23.length c31,.int .i64 WE.term.kind,.int .i64 WE.term.value,.slice Ws WE.term.data.length PX,.slice A51 WE.term.kids.length JR,.slice Zi WE.env.length c54]) rfl rfl rfl (by kernel_rfl) (n_ B59) ⟨⟨_,_,_,_,_,rfl,La,G38,G41,G45,(Ap.dj (Ap.symm (Dj.ap aBP))),(Ap.symm aBQ),aBM,(Ap.dj (Ap.symm (Dj.ap aBR))),(Ap.dj (Dj.ap aBN)),aBO⟩,T⟩)
noncomputable def sO (xs8:List aO):Option (List aO):=
  some xs8
noncomputable def xg (d0:List aO) (eU:List aO→Int→Option (List aO)) (K1:List aO→Option (List aO)) (oD:List aO) (i11:Int):Option (List aO):=
  (bif (decide (i11 < (d0.length:Int))) then ((fC d0 i11).bind fun x14=>((DL x14).bind fun y27=>((fC oD i11).bind fun x46=>(eU (kX oD i11 y27) (i11+1))))) else (K1 oD))
noncomputable def kQ (d0:List aO) (K1:List aO→Option (List aO)):Nat→List aO→Int→Option (List aO)
  |0,_,_=>none
  |g+1,oD,i11=>xg d0 (kQ d0 K1 g) K1 oD i11
noncomputable def CG (d0:List aO):Option (List aO):=
  ((yB (d0.length≤4294967296)).bind fun _=>(kQ d0 sO (d0.length+1) (List.replicate d0.length ((⟨0,0,[],(⟨(⟨0,0,[],[]⟩:ak),[]⟩:ay)⟩:aO):aO)) 0))
set_option maxHeartbeats 2000000 in
theorem abG (d0:List aO) (r:List aO) (hm:CG d0=some r) (v0:Value) (w:World) (hv0:Sl nS 8 w v0 d0) :
    Calls Tryz.prog 23 #[v0] w fun e w'=>(∃(v0:Value) (bs0:List Nat),e=.returned (v0)∧aH 77 dZ 8 w' w.heap.size v0 r bs0)∧Below w.heap.size w w':=by
  obtain ⟨Bc,na0,ca0,rfl,ha0,GN⟩:=hv0;obtain ⟨rfl,qa0⟩:=bI ha0 GN;have T:=Below.refl w.heap.size w;unfold CG at hm;refine enter 23 Tryz.func23 rfl rfl rfl ?_;intro f hf;have s0:f 0=.slice Bc d0.length ca0:=hf 0 _ rfl;refine wp_seq<|au rfl<|aW (.slice none 0 0)<|RQ.nil<|ah<|wp_seq<|bF rfl<|kE s0<|aLz rfl ?_;obtain ⟨_,m1,hm⟩:=bnd hm;have hk2:=h_ m1;refine RL.aAi (O:=dZ) (x0:=(⟨0,0,[],(⟨(⟨0,0,[],[]⟩:ak),[]⟩:ay)⟩:aO)) (n:=d0.length) NT (by decide) (fun w=>⟨none,0,0,none,0,0,none,0,0,none,0,0,[],[],[],[],rfl,⟨⟨rfl,.inl ⟨rfl,rfl⟩⟩,dB,Nat.zero_le _⟩,⟨⟨rfl,.inl ⟨rfl,rfl⟩⟩,dB,Nat.zero_le _⟩,⟨⟨rfl,.inl ⟨rfl,rfl⟩⟩,dB,Nat.zero_le _⟩,⟨⟨rfl,.inl ⟨rfl,rfl⟩⟩,dB,Nat.zero_le _⟩,rfl⟩) rfl rfl rfl hk2 (fun w3 G4 hb5 LP=>?_);replace G4:=aH.mono G4 T.size;have T:=Tt T hb5;refine Ez (.slice (some ⟨w.heap.size,0,none⟩) d0.length d0.length)<|RL.nil<|ah<|wp_seq<|wp_seq<|au rfl<|aW (.int .i64 0)<|RQ.nil<|ah<|wp_block ?_;obtain ⟨K1,hK1,hm⟩ :∃K,K=sO∧kQ d0 K (d0.length+1) (List.replicate d0.length ((⟨0,0,[],(⟨(⟨0,0,[],[]⟩:ak),[]⟩:ay)⟩:aO):aO)) 0=some r:=⟨_,rfl,hm⟩;refine dG (fun g f w'=>∃(oD:List aO) (i11:Int) (Hf:Value) (tZ:List Nat),f 0=.slice Bc d0.length ca0∧f 3=Hf∧aH 77 dZ 8 w' w.heap.size Hf oD tZ∧f 4=.int .i64 i11∧0≤i11∧Below w.heap.size w w'∧kQ d0 K1 g oD i11=some r) 0 (fun f w'=>∃(xs8:List aO) (Uf:Value) (afo:List Nat),f 3=Uf∧aH 77 dZ 8 w' w.heap.size Uf xs8 afo∧Below w.heap.size w w'∧sO xs8=some r) (d0.length+1) ⟨(List.replicate d0.length ((⟨0,0,[],(⟨(⟨0,0,[],[]⟩:ak),[]⟩:ay)⟩:aO):aO)),0,(.slice (some ⟨w.heap.size,0,none⟩) d0.length d0.length),([w.heap.size]),s0,rfl,G4,rfl,(by omega),T,hm⟩ ?_ ?_
  ·rintro f w9 ⟨xs8,Uf,afo,Bg,ag3,T,hm⟩;unfold sO at hm;refine dW (ah ?_);refine wp_seq<|au rfl<|aT Bg<|aW Uf<|RQ.nil<|ah<|wp_ret ?_;obtain rfl:=sj hm;exact (aV rfl rfl rfl ⟨⟨_,_,rfl,ag3⟩,T⟩)
  rintro g f w12 ⟨oD,i11,Hf,tZ,dQ,jE,jc,Dt,apU,T,hm⟩;rcases g with _|g
  ·simp only [kQ] at hm; cases hm
  obtain ⟨eU,d_,hm⟩ :∃z,z=kQ d0 K1 g∧xg d0 z K1 oD i11=some r:=⟨_,rfl,hm⟩;unfold xg at hm;refine wp_seq<|wp_seq<|au rfl<|aT Dt<|aT dQ<|yH rfl<|iq (.bool (decide (i11 < (d0.length:Int))))<|RQ.nil<|ah ?_;rcases aB (decide (i11 < (d0.length:Int))) with c13|c13
  ·replace hm:=cF c13 hm;have ag4:=of_decide_eq_false c13;refine iH c13<|wp_exit ?_;exact (bQ (bQ (iW ⟨_,rfl,⟨oD,(Hf),tZ,jE,jc,T,(by rw [hK1] at hm; exact hm)⟩⟩)))
  replace hm:=cT c13 hm;have ag4:=of_decide_eq_true c13;refine ig c13<|wp_skip<|ah<|wp_seq<|wp_block<|bF rfl<|kE jE<|kE Dt<|kE dQ<|kE Dt ?_;obtain ⟨x14,aas,hm⟩:=bnd hm;obtain ⟨k15,asW,asX,aas⟩:=aU aas;obtain ⟨b21,o22,rfl,aAk⟩:=ha0.addr (by omega);obtain ⟨aKw,NK,PK⟩:=ha0.el aas;have asY:=NK;obtain ⟨A23,n23,c23,A24,n24,c24,A25,n25,c25,A26,n26,Jj,rfl,⟨h23,r23⟩,⟨h24,r24⟩,⟨h25,r25⟩,⟨h26,r26⟩⟩:=NK;obtain ⟨rfl,q23⟩:=bI h23 r23;obtain ⟨rfl,q24⟩:=bI h24 r24;obtain ⟨rfl,q25⟩:=bI h25 r25;obtain ⟨rfl,q26⟩:=bI h26 r26;refine RL.y rfl (Y.indexAddr (m:=k15) (sz:=8) rfl rfl asW asX (by kernel_rfl))<|Sm [.int .i64 x14.kind,.int .i64 x14.value,.slice A23 x14.data.length c23,.int .i64 x14.closure.term.kind,.int .i64 x14.closure.term.value,.slice A24 x14.closure.term.data.length c24,.slice A25 x14.closure.term.kids.length c25,.slice A26 x14.closure.env.length Jj] rfl (QC (cu (cellT T (PK 0 _ rfl))) (cu (cellT T (PK 1 _ rfl))) (cu (cellT T (PK 2 _ rfl))) (cu (cellT T (PK 3 _ rfl))) (cu (cellT T (PK 4 _ rfl))) (cu (cellT T (PK 5 _ rfl))) (cu (cellT T (PK 6 _ rfl))) (cu (cellT T (PK 7 _ rfl)))) ?_;obtain ⟨y27,e28,hm⟩:=bnd hm;refine RL.call rfl (qZ rfl) (by kernel_rfl) ((aef x14 _ e28 _ _ (fE (R:=nS) ⟨_,_,_,_,_,_,_,_,_,_,_,_,rfl,⟨aY.now aG h23 (dB) T,r23⟩,⟨aY.now aG h24 (dB) T,r24⟩,⟨aY.now aK h25 (dB) T,r25⟩,⟨aY.now aG h26 (dB) T,r26⟩⟩)).mono ?_);rintro _ w42 ⟨⟨v29,v32,v35,Uu,v39,rfl,QJ,PY,I9,ZH,ahz,aBU,ahA,ahB,abH,aqh⟩,WR⟩;refine ⟨_,rfl,?_⟩;have ap0:=WR.size;have awK:=T.size;have atr:Ap (fb v29) tZ:=(Ap.new (aA.dU QJ) (aH.hi jc));have att:Ap (fb v32) tZ:=(Ap.new (aA.dU PY) (aH.hi jc));have aaI:Ap Uu tZ:=(Ap.new (aH.jB I9) (aH.hi jc));have atu:Ap (fb v39) tZ:=(Ap.new (aA.dU ZH) (aH.hi jc));have jc:=aH.below aQ jc WR;have T:=Tt T WR;replace QJ:=aA.mono QJ awK;replace PY:=aA.mono PY awK;replace I9:=aH.mono I9 awK;replace ZH:=aA.mono ZH awK;obtain ⟨A44,ZF,rfl⟩:=aH.form jc;have aRf:=aH.bound jc;obtain ⟨x46,ahC,hm⟩:=bnd hm;obtain ⟨k47,ax4,aBV,ahC⟩:=aU ahC;obtain ⟨b51,rfl⟩:=aH.GU jc (by omega);refine RL.y rfl (Y.indexAddr (m:=k47) (sz:=8) rfl rfl ax4 aBV (by kernel_rfl)) ?_;obtain ⟨A52,c53,rfl⟩:=aA.form QJ;have aRx:=aA.bound QJ;obtain ⟨A54,c55,rfl⟩:=aA.form PY
  have a9C:=aA.bound PY;obtain ⟨A56,c57,rfl⟩:=aH.form I9;have aQt:=aH.bound I9;obtain ⟨A58,c59,rfl⟩:=aA.form ZH;have a9D:=aA.bound ZH;obtain ⟨l61,a60,aZF,aG5,r64⟩:=aA.EN fI QJ;obtain ⟨l66,a65,aZG,aG6,r69⟩:=aA.EN fI PY;obtain ⟨_,_,_,l71,aRy,a70,aZH,aLX,r74⟩:=aH.Ua aC I9;injection aRy with e1 e2 e3; subst e1 e2 e3;obtain ⟨l76,a75,aZI,aRz,r79⟩:=aA.EN fI ZH;refine RL.anu (k:=k47) (a':=y27) (l:=(((l61 ++ l66) ++ l71) ++ l76)) (fp:=((((fb (.slice A52 y27.data.length c53)) ++ (fb (.slice A54 y27.closure.term.data.length c55))) ++ Uu) ++ (fb (.slice A58 y27.closure.env.length c59)))) aQ WO rfl rfl rfl jc ahC ⟨_,_,_,_,_,_,_,_,_,_,_,_,l61,l66,l71,l76,rfl,⟨a60,r64⟩,⟨a65,r69⟩,⟨a70,r74⟩,⟨a75,r79⟩,rfl⟩ (ql (ql (ql aZF aZG aG5 aG6 (Dj.ap ahz)) aZH (yO aG5 aG6) aLX (Ap.append aBU ahA)) aZI (yO (yO aG5 aG6) aLX) aRz (Ap.append (Ap.append (Dj.ap ahB) (Dj.ap abH)) aqh)) (yO (yO (yO aG5 aG6) aLX) aRz) (Ap.symm (Ap.append (Ap.append (Ap.append atr att) aaI) atu)) (all2 (all2 (all2 (aA.yP QJ (dB)) (aA.yP PY (dB))) (aH.both I9 (dB))) (aA.yP ZH (dB))) (by kernel_rfl) (fun w80 G81 abI=>?_);have aRA:=abI.size;have T:=T.trans (abI.below (by intro b hb; simp at hb; subst hb; exact aH.jB jc _ (aH.row jc rfl)));have G81:aH 77 dZ 8 w80 w.heap.size (.slice (some ⟨b51,0,none⟩) oD.length ZF) (kX oD i11 y27) (tZ ++ ((((fb (.slice A52 y27.data.length c53)) ++ (fb (.slice A54 y27.closure.term.data.length c55))) ++ Uu) ++ (fb (.slice A58 y27.closure.env.length c59)))):=by rw [yc ax4]; exact G81
  refine RL.nil ?_;refine eF (ah ?_);refine au rfl<|aT Dt<|RQ.y rfl (Y.dS rfl rfl (bn (m:=i11) (by omega)))<|aW (.int .i64 (i11+1))<|RQ.nil ?_;exact (ah ⟨g,_,Nat.lt_succ_self _,rfl,⟨(kX oD i11 y27),(i11+1),(.slice (some ⟨b51,0,none⟩) oD.length ZF),(tZ ++ ((((fb (.slice A52 y27.data.length c53)) ++ (fb (.slice A54 y27.closure.term.data.length c55))) ++ Uu) ++ (fb (.slice A58 y27.closure.env.length c59)))),dQ,jE,G81,rfl,(by omega),T,(by rw [← d_]; exact hm)⟩⟩)
noncomputable def DN (d0:bD):Option bD:=
  ((sN (⟨(⟨d0.closure.term.kind,d0.closure.term.value,d0.closure.term.data,d0.closure.term.kids⟩:ak),d0.closure.env⟩:ay)).bind fun Dv=>some (⟨d0.done,(⟨(⟨Dv.term.kind,Dv.term.value,Dv.term.data,Dv.term.kids⟩:ak),Dv.env⟩:ay)⟩:bD))
set_option maxHeartbeats 2000000 in
theorem aeg (d0:bD) (r:bD) (hm:DN d0=some r) (v0:Value) (w:World) (hv0:St yQ w v0 d0) :
    Calls Tryz.prog 56 #[v0] w fun e w'=>(∃(v0:Value) (v1:Value) (Ag:List Nat) (v2:Value),e=.returned (.agg #[.bool r.done,.int .i64 r.closure.term.kind,.int .i64 r.closure.term.value,v0,v1,v2])∧aA 2 encI 1 w' w.heap.size v0 r.closure.term.data∧aH 38 dI 4 w' w.heap.size v1 r.closure.term.kids Ag∧aA 2 encI 1 w' w.heap.size v2 r.closure.env∧Ap (fb v0) Ag∧Dj v0 v2∧Ap Ag (fb v2))∧Below w.heap.size w w':=by
  obtain ⟨lg,rfl,⟨A1,n1,c1,A2,n2,c2,A3,n3,c3,rfl,⟨h1,r1⟩,⟨h2,r2⟩,⟨h3,r3⟩⟩⟩:=hv0;obtain ⟨rfl,q1⟩:=bI h1 r1;obtain ⟨rfl,q2⟩:=bI h2 r2;obtain ⟨rfl,q3⟩:=bI h3 r3;have T:=Below.refl w.heap.size w;unfold DN at hm;refine enter 12 Tryz.func56 rfl rfl rfl ?_;intro f hf;have s0:f 0=.agg #[.bool d0.done,.int .i64 d0.closure.term.kind,.int .i64 d0.closure.term.value,.slice A1 d0.closure.term.data.length c1,.slice A2 d0.closure.term.kids.length c2,.slice A3 d0.closure.env.length c3]:=hf 0 _ rfl;refine wp_seq<|bF rfl ?_;refine RL.box rfl s0 (fun w4 B5 hb6 aha=>?_);replace B5:dD w4 w.heap.size 93 #[.bool d0.done,.int .i64 d0.closure.term.kind,.int .i64 d0.closure.term.value,.slice A1 d0.closure.term.data.length c1,.slice A2 d0.closure.term.kids.length c2,.slice A3 d0.closure.env.length c3]:=B5;have GB5:w.heap.size≤w.heap.size:=T.size;have T:=Tt T hb6;refine RL.alloc (z:=.agg #[.bool false,.int .i64 0,.int .i64 0,.slice none 0 0,.slice none 0 0,.slice none 0 0]) rfl (by kernel_rfl) (fun w8 B9 Au aAB=>?_);replace B9:dD w8 w4.heap.size 73 #[.bool false,.int .i64 0,.int .i64 0,.slice none 0 0,.slice none 0 0,.slice none 0 0]:=B9;have GB9:w.heap.size≤w4.heap.size:=T.size;have aed:=Nat.ne_of_lt B5.lt;have B5:=aX B5 Au;have T:=Tt T Au;refine RL.nil<|ah<|wp_seq<|bF rfl ?_;refine RL.alloc (z:=.agg #[.bool false,.int .i64 0,.int .i64 0,.slice none 0 0,.slice none 0 0,.slice none 0 0]) rfl (by kernel_rfl) (fun w12 B13 LQ aJz=>?_);replace B13:dD w12 w8.heap.size 73 #[.bool false,.int .i64 0,.int .i64 0,.slice none 0 0,.slice none 0 0,.slice none 0 0]:=B13;have aZE:w.heap.size≤w8.heap.size:=T.size;have SY:=Nat.ne_of_lt B5.lt;have FP:=Nat.ne_of_lt B9.lt;have B5:=aX B5 LQ;have B9:=aX B9 LQ;have T:=Tt T LQ;refine RL.nil<|ah<|wp_seq<|bF rfl<|rC 0 rfl<|I7 (.bool d0.done) rfl (cu (aj B5 (i:=0) rfl))<|rC 0 rfl ?_;refine RL.store (v:=.bool d0.done) (cs':=#[.bool d0.done,.int .i64 0,.int .i64 0,.slice none 0 0,.slice none 0 0,.slice none 0 0]) rfl rfl rfl B13 (by kernel_rfl) (by rfl) (by rfl) (by rfl) (fun w16 B17 aG7=>?_);have av5:=aG7.size;have B5:=B5.bK aG7 (by intro hin; simp at hin; exact SY hin);have B9:=B9.bK aG7 (by intro hin; simp at hin; exact FP hin);have T:=T.trans (aG7.below (by first|(simp; done)|(simp; omega)));refine RL.nil<|ah<|wp_seq<|bF rfl<|rC 1 rfl<|Sm [.int .i64 d0.closure.term.kind,.int .i64 d0.closure.term.value,.slice A1 d0.closure.term.data.length c1,.slice A2 d0.closure.term.kids.length c2,.slice A3 d0.closure.env.length c3] rfl (cells5 (cu (aj B5 (i:=1) rfl)) (cu (aj B5 (i:=2) rfl)) (cu (aj B5 (i:=3) rfl)) (cu (aj B5 (i:=4) rfl)) (cu (aj B5 (i:=5) rfl))) ?_
  obtain ⟨Dv,e20,hm⟩:=bnd hm;refine RL.call rfl (qZ rfl) (by kernel_rfl) ((FN (⟨(⟨d0.closure.term.kind,d0.closure.term.value,d0.closure.term.data,d0.closure.term.kids⟩:ak),d0.closure.env⟩:ay) _ e20 _ _ (fE (R:=dM) ⟨_,_,_,_,_,_,_,_,_,rfl,⟨aY.now aG h1 (dB) T,r1⟩,⟨aY.now aK h2 (dB) T,r2⟩,⟨aY.now aG h3 (dB) T,r3⟩⟩)).mono ?_);rintro _ w31 ⟨⟨v21,v24,aLY,v28,rfl,G22,G25,Nu,aBW,aBX,aBY⟩,Wh⟩;refine ⟨_,rfl,?_⟩;have apV:=Wh.size;have aBZ:=T.size;have aBI:=aJ (Ap.new (aA.dU G22) (aI B5.lt));have aee:=aJ (Ap.new (aA.dU G22) (aI B9.lt));have YP:=aJ (Ap.new (aA.dU G22) (aI B17.lt));have aRB:Ap aLY [w.heap.size]:=(Ap.new (aH.jB G25) (aI B5.lt));have ax5:Ap aLY [w4.heap.size]:=(Ap.new (aH.jB G25) (aI B9.lt));have ax6:Ap aLY [w8.heap.size]:=(Ap.new (aH.jB G25) (aI B17.lt));have aRC:=aJ (Ap.new (aA.dU Nu) (aI B5.lt));have ax7:=aJ (Ap.new (aA.dU Nu) (aI B9.lt));have ax8:=aJ (Ap.new (aA.dU Nu) (aI B17.lt));have B5:=aX B5 Wh;have B9:=aX B9 Wh;have B17:=aX B17 Wh;have T:=Tt T Wh;replace G22:=aA.mono G22 aBZ;replace G25:=aH.mono G25 aBZ;replace Nu:=aA.mono Nu aBZ;refine rC 1 rfl ?_;obtain ⟨A33,c34,rfl⟩:=aA.form G22;have aRD:=aA.bound G22;obtain ⟨A35,c36,rfl⟩:=aH.form G25;have a9E:=aH.bound G25;obtain ⟨A37,GK,rfl⟩:=aA.form Nu;have a9F:=aA.bound Nu;refine RL.store (v:=.agg #[.int .i64 Dv.term.kind,.int .i64 Dv.term.value,.slice A33 Dv.term.data.length c34,.slice A35 Dv.term.kids.length c36,.slice A37 Dv.env.length GK]) (cs':=#[.bool d0.done,.int .i64 Dv.term.kind,.int .i64 Dv.term.value,.slice A33 Dv.term.data.length c34,.slice A35 Dv.term.kids.length c36,.slice A37 Dv.env.length GK]) rfl rfl rfl B17 (by kernel_rfl) (by rfl) (by rfl) (by rfl) (fun w39 B40 ahn=>?_);have ap5:=ahn.size;have B5:=B5.bK ahn (by intro hin; simp at hin; exact SY hin);have B9:=B9.bK ahn (by intro hin; simp at hin; exact FP hin);have G22:=aA.only G22 ahn YP;have G25:=aH.only aC G25 ahn (Ap.one ax6);have Nu:=aA.only Nu ahn ax8;have T:=T.trans (ahn.below (by first|(simp; done)|(simp; omega)));refine RL.nil<|ah<|wp_seq<|bF rfl<|Sm [.bool d0.done,.int .i64 Dv.term.kind,.int .i64 Dv.term.value,.slice A33 Dv.term.data.length c34,.slice A35 Dv.term.kids.length c36,.slice A37 Dv.env.length GK] rfl (QB (cu (aj B40 (i:=0) rfl)) (cu (aj B40 (i:=1) rfl)) (cu (aj B40 (i:=2) rfl)) (cu (aj B40 (i:=3) rfl)) (cu (aj B40 (i:=4) rfl)) (cu (aj B40 (i:=5) rfl))) ?_
  refine RL.store (v:=.agg #[.bool d0.done,.int .i64 Dv.term.kind,.int .i64 Dv.term.value,.slice A33 Dv.term.data.length c34,.slice A35 Dv.term.kids.length c36,.slice A37 Dv.env.length GK]) (cs':=#[.bool d0.done,.int .i64 Dv.term.kind,.int .i64 Dv.term.value,.slice A33 Dv.term.data.length c34,.slice A35 Dv.term.kids.length c36,.slice A37 Dv.env.length GK]) rfl rfl rfl B9 (by kernel_rfl) (by rfl) (by rfl) (by rfl) (fun w42 B43 ax9=>?_);have ap0:=ax9.size;have B40:=B40.bK ax9 (by intro hin; simp at hin; exact FP.symm hin);have G22:=aA.only G22 ax9 aee;have G25:=aH.only aC G25 ax9 (Ap.one ax5);have Nu:=aA.only Nu ax9 ax7;have T:=T.trans (ax9.below (by first|(simp; done)|(simp; omega)));refine RL.nil<|ah<|wp_ret ?_;obtain rfl:=sj hm;exact (WJ (cs:=[.bool d0.done,.int .i64 Dv.term.kind,.int .i64 Dv.term.value,.slice A33 Dv.term.data.length c34,.slice A35 Dv.term.kids.length c36,.slice A37 Dv.env.length GK]) rfl rfl rfl (by kernel_rfl) (n_ B43) ⟨⟨_,_,_,_,rfl,G22,G25,Nu,aBW,(Ap.dj (Dj.ap aBX)),aBY⟩,T⟩)
noncomputable def sQ (xs8:List bD):Option (List bD):=
  some xs8
noncomputable def xk (d0:List bD) (eU:List bD→Int→Option (List bD)) (K1:List bD→Option (List bD)) (oD:List bD) (i11:Int):Option (List bD):=
  (bif (decide (i11 < (d0.length:Int))) then ((fC d0 i11).bind fun x14=>((DN x14).bind fun y26=>((fC oD i11).bind fun x42=>(eU (kX oD i11 y26) (i11+1))))) else (K1 oD))
noncomputable def kR (d0:List bD) (K1:List bD→Option (List bD)):Nat→List bD→Int→Option (List bD)
  |0,_,_=>none
  |g+1,oD,i11=>xk d0 (kR d0 K1 g) K1 oD i11
noncomputable def CJ (d0:List bD):Option (List bD):=
  ((yB (d0.length≤4294967296)).bind fun _=>(kR d0 sQ (d0.length+1) (List.replicate d0.length ((⟨false,(⟨(⟨0,0,[],[]⟩:ak),[]⟩:ay)⟩:bD):bD)) 0))
set_option maxHeartbeats 2000000 in
theorem abJ (d0:List bD) (r:List bD) (hm:CJ d0=some r) (v0:Value) (w:World) (hv0:Sl yQ 6 w v0 d0) :
    Calls Tryz.prog 24 #[v0] w fun e w'=>(∃(v0:Value) (bs0:List Nat),e=.returned (v0)∧aH 73 fD 6 w' w.heap.size v0 r bs0)∧Below w.heap.size w w':=by
  obtain ⟨Bc,na0,ca0,rfl,ha0,GN⟩:=hv0;obtain ⟨rfl,qa0⟩:=bI ha0 GN;have T:=Below.refl w.heap.size w;unfold CJ at hm;refine enter 23 Tryz.func24 rfl rfl rfl ?_;intro f hf;have s0:f 0=.slice Bc d0.length ca0:=hf 0 _ rfl;refine wp_seq<|au rfl<|aW (.slice none 0 0)<|RQ.nil<|ah<|wp_seq<|bF rfl<|kE s0<|aLz rfl ?_;obtain ⟨_,m1,hm⟩:=bnd hm;have hk2:=h_ m1;refine RL.aAi (O:=fD) (x0:=(⟨false,(⟨(⟨0,0,[],[]⟩:ak),[]⟩:ay)⟩:bD)) (n:=d0.length) Az (by decide) (fun w=>⟨none,0,0,none,0,0,none,0,0,[],[],[],rfl,⟨⟨rfl,.inl ⟨rfl,rfl⟩⟩,dB,Nat.zero_le _⟩,⟨⟨rfl,.inl ⟨rfl,rfl⟩⟩,dB,Nat.zero_le _⟩,⟨⟨rfl,.inl ⟨rfl,rfl⟩⟩,dB,Nat.zero_le _⟩,rfl⟩) rfl rfl rfl hk2 (fun w3 G4 hb5 LP=>?_);replace G4:=aH.mono G4 T.size;have T:=Tt T hb5;refine Ez (.slice (some ⟨w.heap.size,0,none⟩) d0.length d0.length)<|RL.nil<|ah<|wp_seq<|wp_seq<|au rfl<|aW (.int .i64 0)<|RQ.nil<|ah<|wp_block ?_;obtain ⟨K1,hK1,hm⟩ :∃K,K=sQ∧kR d0 K (d0.length+1) (List.replicate d0.length ((⟨false,(⟨(⟨0,0,[],[]⟩:ak),[]⟩:ay)⟩:bD):bD)) 0=some r:=⟨_,rfl,hm⟩;refine dG (fun g f w'=>∃(oD:List bD) (i11:Int) (Hf:Value) (tZ:List Nat),f 0=.slice Bc d0.length ca0∧f 3=Hf∧aH 73 fD 6 w' w.heap.size Hf oD tZ∧f 4=.int .i64 i11∧0≤i11∧Below w.heap.size w w'∧kR d0 K1 g oD i11=some r) 0 (fun f w'=>∃(xs8:List bD) (Uf:Value) (afo:List Nat),f 3=Uf∧aH 73 fD 6 w' w.heap.size Uf xs8 afo∧Below w.heap.size w w'∧sQ xs8=some r) (d0.length+1) ⟨(List.replicate d0.length ((⟨false,(⟨(⟨0,0,[],[]⟩:ak),[]⟩:ay)⟩:bD):bD)),0,(.slice (some ⟨w.heap.size,0,none⟩) d0.length d0.length),([w.heap.size]),s0,rfl,G4,rfl,(by omega),T,hm⟩ ?_ ?_
  ·rintro f w9 ⟨xs8,Uf,afo,Bg,ag3,T,hm⟩;unfold sQ at hm;refine dW (ah ?_);refine wp_seq<|au rfl<|aT Bg<|aW Uf<|RQ.nil<|ah<|wp_ret ?_;obtain rfl:=sj hm;exact (aV rfl rfl rfl ⟨⟨_,_,rfl,ag3⟩,T⟩)
  rintro g f w12 ⟨oD,i11,Hf,tZ,dQ,jE,jc,Dt,apU,T,hm⟩;rcases g with _|g
  ·simp only [kR] at hm; cases hm
  obtain ⟨eU,d_,hm⟩ :∃z,z=kR d0 K1 g∧xk d0 z K1 oD i11=some r:=⟨_,rfl,hm⟩;unfold xk at hm;refine wp_seq<|wp_seq<|au rfl<|aT Dt<|aT dQ<|yH rfl<|iq (.bool (decide (i11 < (d0.length:Int))))<|RQ.nil<|ah ?_;rcases aB (decide (i11 < (d0.length:Int))) with c13|c13
  ·replace hm:=cF c13 hm;have ag4:=of_decide_eq_false c13;refine iH c13<|wp_exit ?_;exact (bQ (bQ (iW ⟨_,rfl,⟨oD,(Hf),tZ,jE,jc,T,(by rw [hK1] at hm; exact hm)⟩⟩)))
  replace hm:=cT c13 hm;have ag4:=of_decide_eq_true c13;refine ig c13<|wp_skip<|ah<|wp_seq<|wp_block<|bF rfl<|kE jE<|kE Dt<|kE dQ<|kE Dt ?_;obtain ⟨x14,aas,hm⟩:=bnd hm;obtain ⟨k15,asW,asX,aas⟩:=aU aas;obtain ⟨b21,o22,rfl,aAk⟩:=ha0.addr (by omega);obtain ⟨aKw,NK,PK⟩:=ha0.el aas;have asY:=NK;obtain ⟨A23,n23,c23,A24,n24,c24,A25,n25,c25,rfl,⟨h23,r23⟩,⟨h24,r24⟩,⟨h25,r25⟩⟩:=NK;obtain ⟨rfl,q23⟩:=bI h23 r23;obtain ⟨rfl,q24⟩:=bI h24 r24;obtain ⟨rfl,q25⟩:=bI h25 r25;refine RL.y rfl (Y.indexAddr (m:=k15) (sz:=6) rfl rfl asW asX (by kernel_rfl))<|Sm [.bool x14.done,.int .i64 x14.closure.term.kind,.int .i64 x14.closure.term.value,.slice A23 x14.closure.term.data.length c23,.slice A24 x14.closure.term.kids.length c24,.slice A25 x14.closure.env.length c25] rfl (QB (cu (cellT T (PK 0 _ rfl))) (cu (cellT T (PK 1 _ rfl))) (cu (cellT T (PK 2 _ rfl))) (cu (cellT T (PK 3 _ rfl))) (cu (cellT T (PK 4 _ rfl))) (cu (cellT T (PK 5 _ rfl)))) ?_;obtain ⟨y26,e27,hm⟩:=bnd hm;refine RL.call rfl (qZ rfl) (by kernel_rfl) ((aeg x14 _ e27 _ _ (fE (R:=yQ) ⟨_,_,_,_,_,_,_,_,_,rfl,⟨aY.now aG h23 (dB) T,r23⟩,⟨aY.now aK h24 (dB) T,r24⟩,⟨aY.now aG h25 (dB) T,r25⟩⟩)).mono ?_);rintro _ w38 ⟨⟨v28,v31,aG8,v35,rfl,Nu,G32,I9,aB0,ahD,aB1⟩,axB⟩;refine ⟨_,rfl,?_⟩;have ap3:=axB.size;have aB2:=T.size;have atv:Ap (fb v28) tZ:=(Ap.new (aA.dU Nu) (aH.hi jc));have atw:Ap aG8 tZ:=(Ap.new (aH.jB G32) (aH.hi jc));have aaI:Ap (fb v35) tZ:=(Ap.new (aA.dU I9) (aH.hi jc));have jc:=aH.below aS jc axB;have T:=Tt T axB;replace Nu:=aA.mono Nu aB2;replace G32:=aH.mono G32 aB2;replace I9:=aA.mono I9 aB2;obtain ⟨A40,WC,rfl⟩:=aH.form jc;have a9G:=aH.bound jc;obtain ⟨x42,aLZ,hm⟩:=bnd hm;obtain ⟨k43,aRE,aZJ,aLZ⟩:=aU aLZ;obtain ⟨b47,rfl⟩:=aH.GU jc (by omega);refine RL.y rfl (Y.indexAddr (m:=k43) (sz:=6) rfl rfl aRE aZJ (by kernel_rfl)) ?_;obtain ⟨A48,c49,rfl⟩:=aA.form Nu;have a9H:=aA.bound Nu;obtain ⟨A50,c51,rfl⟩:=aH.form G32;have a9I:=aH.bound G32;obtain ⟨A52,c53,rfl⟩:=aA.form I9;have aRx:=aA.bound I9;obtain ⟨l55,a54,aZK,aL0,r58⟩:=aA.EN fI Nu;obtain ⟨_,_,_,l60,aRF,a59,aZL,aL1,r63⟩:=aH.Ua aC G32;injection aRF with e1 e2 e3; subst e1 e2 e3;obtain ⟨l65,a64,aZM,aRG,r68⟩:=aA.EN fI I9;refine RL.anu (k:=k43) (a':=y26) (l:=((l55 ++ l60) ++ l65)) (fp:=(((fb (.slice A48 y26.closure.term.data.length c49)) ++ aG8) ++ (fb (.slice A52 y26.closure.env.length c53)))) aS Gu rfl rfl rfl jc aLZ ⟨_,_,_,_,_,_,_,_,_,l55,l60,l65,rfl,⟨a54,r58⟩,⟨a59,r63⟩,⟨a64,r68⟩,rfl⟩ (ql (ql aZK aZL aL0 aL1 aB0) aZM (yO aL0 aL1) aRG (Ap.append (Dj.ap ahD) aB1)) (yO (yO aL0 aL1) aRG) (Ap.symm (Ap.append (Ap.append atv atw) aaI)) (all2 (all2 (aA.yP Nu (dB)) (aH.both G32 (dB))) (aA.yP I9 (dB))) (by kernel_rfl) (fun w69 G70 aRH=>?_)
  have aI7:=aRH.size;have T:=T.trans (aRH.below (by intro b hb; simp at hb; subst hb; exact aH.jB jc _ (aH.row jc rfl)));have G70:aH 73 fD 6 w69 w.heap.size (.slice (some ⟨b47,0,none⟩) oD.length WC) (kX oD i11 y26) (tZ ++ (((fb (.slice A48 y26.closure.term.data.length c49)) ++ aG8) ++ (fb (.slice A52 y26.closure.env.length c53)))):=by rw [yc aRE]; exact G70
  refine RL.nil ?_;refine eF (ah ?_);refine au rfl<|aT Dt<|RQ.y rfl (Y.dS rfl rfl (bn (m:=i11) (by omega)))<|aW (.int .i64 (i11+1))<|RQ.nil ?_;exact (ah ⟨g,_,Nat.lt_succ_self _,rfl,⟨(kX oD i11 y26),(i11+1),(.slice (some ⟨b47,0,none⟩) oD.length WC),(tZ ++ (((fb (.slice A48 y26.closure.term.data.length c49)) ++ aG8) ++ (fb (.slice A52 y26.closure.env.length c53)))),dQ,jE,G70,rfl,(by omega),T,(by rw [← d_]; exact hm)⟩⟩)
noncomputable def JZ (d0:aN):Option aN:=
  ((sN (⟨(⟨d0.control.term.kind,d0.control.term.value,d0.control.term.data,d0.control.term.kids⟩:ak),d0.control.env⟩:ay)).bind fun Je=>((CG d0.stack).bind fun Lc=>((CJ d0.heap).bind fun y54=>some (⟨(⟨(⟨Je.term.kind,Je.term.value,Je.term.data,Je.term.kids⟩:ak),Je.env⟩:ay),Lc,y54⟩:aN))))
set_option maxHeartbeats 2000000 in
theorem agc (d0:aN) (r:aN) (hm:JZ d0=some r) (v0:Value) (w:World) (hv0:St jQ w v0 d0) :
    Calls Tryz.prog 8 #[v0] w fun e w'=>(∃(v0:Value) (v1:Value) (Ag:List Nat) (v2:Value) (v3:Value) (Qb:List Nat) (v4:Value) (Qc:List Nat),e=.returned (.agg #[.int .i64 r.control.term.kind,.int .i64 r.control.term.value,v0,v1,v2,v3,v4])∧aA 2 encI 1 w' w.heap.size v0 r.control.term.data∧aH 38 dI 4 w' w.heap.size v1 r.control.term.kids Ag∧aA 2 encI 1 w' w.heap.size v2 r.control.env∧aH 77 dZ 8 w' w.heap.size v3 r.stack Qb∧aH 73 fD 6 w' w.heap.size v4 r.heap Qc∧Ap (fb v0) Ag∧Dj v0 v2∧Ap Ag (fb v2)∧Ap (fb v0) Qb∧Ap Ag Qb∧Ap (fb v2) Qb∧Ap (fb v0) Qc∧Ap Ag Qc∧Ap (fb v2) Qc∧Ap Qb Qc)∧Below w.heap.size w w':=by
  obtain ⟨lg,rfl,⟨A1,n1,c1,A2,n2,c2,A3,n3,c3,A4,n4,c4,A5,n5,c5,rfl,⟨h1,r1⟩,⟨h2,r2⟩,⟨h3,r3⟩,⟨h4,r4⟩,⟨h5,r5⟩⟩⟩:=hv0;obtain ⟨rfl,q1⟩:=bI h1 r1;obtain ⟨rfl,q2⟩:=bI h2 r2;obtain ⟨rfl,q3⟩:=bI h3 r3;obtain ⟨rfl,q4⟩:=bI h4 r4;obtain ⟨rfl,q5⟩:=bI h5 r5;have T:=Below.refl w.heap.size w;unfold JZ at hm;refine enter 17 Tryz.func8 rfl rfl rfl ?_;intro f hf;have s0:f 0=.agg #[.int .i64 d0.control.term.kind,.int .i64 d0.control.term.value,.slice A1 d0.control.term.data.length c1,.slice A2 d0.control.term.kids.length c2,.slice A3 d0.control.env.length c3,.slice A4 d0.stack.length c4,.slice A5 d0.heap.length c5]:=hf 0 _ rfl;refine wp_seq<|bF rfl ?_;refine RL.box rfl s0 (fun w6 B7 hb8 axO=>?_);replace B7:dD w6 w.heap.size 33 #[.int .i64 d0.control.term.kind,.int .i64 d0.control.term.value,.slice A1 d0.control.term.data.length c1,.slice A2 d0.control.term.kids.length c2,.slice A3 d0.control.env.length c3,.slice A4 d0.stack.length c4,.slice A5 d0.heap.length c5]:=B7;have GB7:w.heap.size≤w.heap.size:=T.size;have T:=Tt T hb8;refine RL.alloc (z:=.agg #[.int .i64 0,.int .i64 0,.slice none 0 0,.slice none 0 0,.slice none 0 0,.slice none 0 0,.slice none 0 0]) rfl (by kernel_rfl) (fun w10 B11 Ht apY=>?_);replace B11:dD w10 w6.heap.size 44 #[.int .i64 0,.int .i64 0,.slice none 0 0,.slice none 0 0,.slice none 0 0,.slice none 0 0,.slice none 0 0]:=B11;have aLr:w.heap.size≤w6.heap.size:=T.size;have YO:=Nat.ne_of_lt B7.lt;have B7:=aX B7 Ht;have T:=Tt T Ht;refine RL.nil<|ah<|wp_seq<|bF rfl ?_;refine RL.alloc (z:=.agg #[.int .i64 0,.int .i64 0,.slice none 0 0,.slice none 0 0,.slice none 0 0,.slice none 0 0,.slice none 0 0]) rfl (by kernel_rfl) (fun WQ B15 hb16 aJd=>?_);replace B15:dD WQ w10.heap.size 44 #[.int .i64 0,.int .i64 0,.slice none 0 0,.slice none 0 0,.slice none 0 0,.slice none 0 0,.slice none 0 0]:=B15;have aYR:w.heap.size≤w10.heap.size:=T.size;have aeh:=Nat.ne_of_lt B7.lt;have NZ:=Nat.ne_of_lt B11.lt;have B7:=aX B7 hb16;have B11:=aX B11 hb16;have T:=Tt T hb16;refine RL.nil<|ah<|wp_seq<|bF rfl<|rC 0 rfl<|Sm [.int .i64 d0.control.term.kind,.int .i64 d0.control.term.value,.slice A1 d0.control.term.data.length c1,.slice A2 d0.control.term.kids.length c2,.slice A3 d0.control.env.length c3] rfl (cells5 (cu (aj B7 (i:=0) rfl)) (cu (aj B7 (i:=1) rfl)) (cu (aj B7 (i:=2) rfl)) (cu (aj B7 (i:=3) rfl)) (cu (aj B7 (i:=4) rfl))) ?_;obtain ⟨Je,e19,hm⟩:=bnd hm;refine RL.call rfl (qZ rfl) (by kernel_rfl) ((FN (⟨(⟨d0.control.term.kind,d0.control.term.value,d0.control.term.data,d0.control.term.kids⟩:ak),d0.control.env⟩:ay) _ e19 _ _ (fE (R:=dM) ⟨_,_,_,_,_,_,_,_,_,rfl,⟨aY.now aG h1 (dB) T,r1⟩,⟨aY.now aK h2 (dB) T,r2⟩,⟨aY.now aG h3 (dB) T,r3⟩⟩)).mono ?_)
  rintro _ w30 ⟨⟨v20,v23,aB3,v27,rfl,VD,K_,Sv,aB4,aB5,aB6⟩,KY⟩;refine ⟨_,rfl,?_⟩;have ahm:=KY.size;have aqi:=T.size;have aRI:=aJ (Ap.new (aA.dU VD) (aI B7.lt));have ax_:=aJ (Ap.new (aA.dU VD) (aI B11.lt));have aei:=aJ (Ap.new (aA.dU VD) (aI B15.lt));have aqj:Ap aB3 [w.heap.size]:=(Ap.new (aH.jB K_) (aI B7.lt));have aej:Ap aB3 [w6.heap.size]:=(Ap.new (aH.jB K_) (aI B11.lt));have aek:Ap aB3 [w10.heap.size]:=(Ap.new (aH.jB K_) (aI B15.lt));have aRJ:=aJ (Ap.new (aA.dU Sv) (aI B7.lt));have aya:=aJ (Ap.new (aA.dU Sv) (aI B11.lt));have ael:=aJ (Ap.new (aA.dU Sv) (aI B15.lt));have B7:=aX B7 KY;have B11:=aX B11 KY;have B15:=aX B15 KY;have T:=Tt T KY;replace VD:=aA.mono VD aqi;replace K_:=aH.mono K_ aqi;replace Sv:=aA.mono Sv aqi;refine rC 0 rfl ?_;obtain ⟨A32,LH,rfl⟩:=aA.form VD;have aJB:=aA.bound VD;obtain ⟨A34,c35,rfl⟩:=aH.form K_;have aRK:=aH.bound K_;obtain ⟨A36,c37,rfl⟩:=aA.form Sv;have aJx:=aA.bound Sv;refine RL.store (v:=.agg #[.int .i64 Je.term.kind,.int .i64 Je.term.value,.slice A32 Je.term.data.length LH,.slice A34 Je.term.kids.length c35,.slice A36 Je.env.length c37]) (cs':=#[.int .i64 Je.term.kind,.int .i64 Je.term.value,.slice A32 Je.term.data.length LH,.slice A34 Je.term.kids.length c35,.slice A36 Je.env.length c37,.slice none 0 0,.slice none 0 0]) rfl rfl rfl B15 (by kernel_rfl) (by rfl) (by rfl) (by rfl) (fun w38 B39 I_=>?_);have ap3:=I_.size;have B7:=B7.bK I_ (by intro hin; simp at hin; exact aeh hin);have B11:=B11.bK I_ (by intro hin; simp at hin; exact NZ hin);have VD:=aA.only VD I_ aei;have K_:=aH.only aC K_ I_ (Ap.one aek);have Sv:=aA.only Sv I_ ael;have T:=T.trans (I_.below (by first|(simp; done)|(simp; omega)));refine RL.nil<|ah<|wp_seq<|bF rfl<|rC 5 rfl<|I7 (.slice A4 d0.stack.length c4) rfl (cu (aj B7 (i:=5) rfl)) ?_;obtain ⟨Lc,e42,hm⟩:=bnd hm;refine RL.call rfl (qZ rfl) (by kernel_rfl) ((abG d0.stack _ e42 _ _ (eY kF h4 r4 T)).mono ?_);rintro _ w47 ⟨⟨v43,ake,rfl,MF⟩,hb48⟩;refine ⟨_,rfl,?_⟩;have awz:=hb48.size;have Xf:=T.size;have aRL:Ap ake [w.heap.size]:=(Ap.new (aH.jB MF) (aI B7.lt));have ayb:Ap ake [w6.heap.size]:=(Ap.new (aH.jB MF) (aI B11.lt));have amA:Ap ake [w10.heap.size]:=(Ap.new (aH.jB MF) (aI B39.lt))
  have aB7:Ap ake (fb (.slice A32 Je.term.data.length LH)):=(Ap.new (aH.jB MF) (aA.je VD));have aB8:Ap ake aB3:=(Ap.new (aH.jB MF) (aH.hi K_));have aB9:Ap ake (fb (.slice A36 Je.env.length c37)):=(Ap.new (aH.jB MF) (aA.je Sv));have B7:=aX B7 hb48;have B11:=aX B11 hb48;have B39:=aX B39 hb48;have VD:=aA.below VD hb48;have K_:=aH.below aC K_ hb48;have Sv:=aA.below Sv hb48;have T:=Tt T hb48;replace MF:=aH.mono MF Xf;refine rC 5 rfl ?_;obtain ⟨Ws,PX,rfl⟩:=aH.form MF;have aqg:=aH.bound MF;refine RL.store (v:=.slice Ws Lc.length PX) (cs':=#[.int .i64 Je.term.kind,.int .i64 Je.term.value,.slice A32 Je.term.data.length LH,.slice A34 Je.term.kids.length c35,.slice A36 Je.env.length c37,.slice Ws Lc.length PX,.slice none 0 0]) rfl rfl rfl B39 (by kernel_rfl) (by rfl) (by rfl) (by rfl) (fun w51 B52 MR=>?_);have aJs:=MR.size;have B7:=B7.bK MR (by intro hin; simp at hin; exact aeh hin);have B11:=B11.bK MR (by intro hin; simp at hin; exact NZ hin);have VD:=aA.only VD MR aei;have K_:=aH.only aC K_ MR (Ap.one aek);have Sv:=aA.only Sv MR ael;have MF:=aH.only aQ MF MR (Ap.one amA);have T:=T.trans (MR.below (by first|(simp; done)|(simp; omega)));refine RL.nil<|ah<|wp_seq<|bF rfl<|rC 6 rfl<|I7 (.slice A5 d0.heap.length c5) rfl (cu (aj B7 (i:=6) rfl)) ?_;obtain ⟨y54,e55,hm⟩:=bnd hm;refine RL.call rfl (qZ rfl) (by kernel_rfl) ((abJ d0.heap _ e55 _ _ (eY nN h5 r5 T)).mono ?_);rintro _ w60 ⟨⟨v56,atx,rfl,G57⟩,GL⟩;refine ⟨_,rfl,?_⟩;have aJt:=GL.size;have aRM:=T.size;have aRN:Ap atx [w.heap.size]:=(Ap.new (aH.jB G57) (aI B7.lt));have ayc:Ap atx [w6.heap.size]:=(Ap.new (aH.jB G57) (aI B11.lt));have ayd:Ap atx [w10.heap.size]:=(Ap.new (aH.jB G57) (aI B52.lt));have aB_:Ap atx (fb (.slice A32 Je.term.data.length LH)):=(Ap.new (aH.jB G57) (aA.je VD));have aCa:Ap atx aB3:=(Ap.new (aH.jB G57) (aH.hi K_));have aCb:Ap atx (fb (.slice A36 Je.env.length c37)):=(Ap.new (aH.jB G57) (aA.je Sv));have aCc:Ap atx ake:=(Ap.new (aH.jB G57) (aH.hi MF));have B7:=aX B7 GL;have B11:=aX B11 GL;have B52:=aX B52 GL;have VD:=aA.below VD GL;have K_:=aH.below aC K_ GL;have Sv:=aA.below Sv GL;have MF:=aH.below aQ MF GL;have T:=Tt T GL;replace G57:=aH.mono G57 aRM
  refine rC 6 rfl ?_;obtain ⟨A62,c63,rfl⟩:=aH.form G57;have a9J:=aH.bound G57;refine RL.store (v:=.slice A62 y54.length c63) (cs':=#[.int .i64 Je.term.kind,.int .i64 Je.term.value,.slice A32 Je.term.data.length LH,.slice A34 Je.term.kids.length c35,.slice A36 Je.env.length c37,.slice Ws Lc.length PX,.slice A62 y54.length c63]) rfl rfl rfl B52 (by kernel_rfl) (by rfl) (by rfl) (by rfl) (fun w64 B65 anI=>?_);have aAI:=anI.size;have B7:=B7.bK anI (by intro hin; simp at hin; exact aeh hin);have B11:=B11.bK anI (by intro hin; simp at hin; exact NZ hin);have VD:=aA.only VD anI aei;have K_:=aH.only aC K_ anI (Ap.one aek);have Sv:=aA.only Sv anI ael;have MF:=aH.only aQ MF anI (Ap.one amA);have G57:=aH.only aS G57 anI (Ap.one ayd);have T:=T.trans (anI.below (by first|(simp; done)|(simp; omega)));refine RL.nil<|ah<|wp_seq<|bF rfl<|Sm [.int .i64 Je.term.kind,.int .i64 Je.term.value,.slice A32 Je.term.data.length LH,.slice A34 Je.term.kids.length c35,.slice A36 Je.env.length c37,.slice Ws Lc.length PX,.slice A62 y54.length c63] rfl (Ul (cu (aj B65 (i:=0) rfl)) (cu (aj B65 (i:=1) rfl)) (cu (aj B65 (i:=2) rfl)) (cu (aj B65 (i:=3) rfl)) (cu (aj B65 (i:=4) rfl)) (cu (aj B65 (i:=5) rfl)) (cu (aj B65 (i:=6) rfl))) ?_;refine RL.store (v:=.agg #[.int .i64 Je.term.kind,.int .i64 Je.term.value,.slice A32 Je.term.data.length LH,.slice A34 Je.term.kids.length c35,.slice A36 Je.env.length c37,.slice Ws Lc.length PX,.slice A62 y54.length c63]) (cs':=#[.int .i64 Je.term.kind,.int .i64 Je.term.value,.slice A32 Je.term.data.length LH,.slice A34 Je.term.kids.length c35,.slice A36 Je.env.length c37,.slice Ws Lc.length PX,.slice A62 y54.length c63]) rfl rfl rfl B11 (by kernel_rfl) (by rfl) (by rfl) (by rfl) (fun w67 B68 aqk=>?_);have aAJ:=aqk.size;have B65:=B65.bK aqk (by intro hin; simp at hin; exact NZ.symm hin);have VD:=aA.only VD aqk ax_;have K_:=aH.only aC K_ aqk (Ap.one aej);have Sv:=aA.only Sv aqk aya;have MF:=aH.only aQ MF aqk (Ap.one ayb);have G57:=aH.only aS G57 aqk (Ap.one ayc);have T:=T.trans (aqk.below (by first|(simp; done)|(simp; omega)));refine RL.nil<|ah<|wp_ret ?_;obtain rfl:=sj hm;exact (WJ (cs:=[.int .i64 Je.term.kind,.int .i64 Je.term.value,.slice A32 Je.term.data.length LH,.slice A34 Je.term.kids.length c35,.slice A36 Je.env.length c37,.slice Ws Lc.length PX,.slice A62 y54.length c63]) rfl rfl rfl (by kernel_rfl) (n_ B68) ⟨⟨_,_,_,_,_,_,_,_,rfl,VD,K_,Sv,MF,G57,aB4,(Ap.dj (Dj.ap aB5)),aB6,(Ap.symm aB7),(Ap.symm aB8),(Ap.symm aB9),(Ap.symm aB_),(Ap.symm aCa),(Ap.symm aCb),(Ap.symm aCc)⟩,T⟩)
end
section
open Go.RowKit
/-- Rows are not longer than Go's largest length. -/
inductive Zm:ak→Prop
 |mk {x:ak} (hd:x.data.length≤maxLen) (hl:x.kids.length≤maxLen) (hk :∀y,y∈x.kids→Zm y):Zm x
theorem Zm.data {x:ak} (h:Zm x):x.data.length≤maxLen:=by cases h; assumption
theorem Zm.len {x:ak} (h:Zm x):x.kids.length≤maxLen:=by cases h; assumption
theorem Zm.kids {x:ak} (h:Zm x) :∀y∈x.kids,Zm y:=by cases h; assumption
theorem aY.each {α:Type} {R:Rd α} {sz:Nat} {w:World} {B n:Nat} {A:Option Addr} {xs:List α} (h:aY R sz w B A n xs) :∀x∈xs,∃cs,R w B cs x:=fun x hx=>by
 obtain ⟨i,hi,rfl⟩:=List.getElem_of_mem hx
 have hn:0 < n:=by have:=h.1; omega
 obtain ⟨b,off,e,hb,hs⟩:=h.2 hn
 obtain ⟨cs,hR,hv⟩:=hs i _ (List.getElem?_eq_getElem hi)
 exact ⟨cs,hR⟩
theorem aaJ {w:World} {B:Nat} :∀(dJ:Nat) (cs:List Value) (x:ak),SizeOf.sizeOf x≤dJ→bf w B cs x→Zm x
 |0,cs,x,h,_=>by have:=x.pos; omega
 |dJ+1,cs,x,h,hR=>by
  obtain ⟨A1,n1,c1,A2,n2,c2,rfl,⟨h1,r1⟩,⟨h2,r2⟩⟩:=bG hR
  have e1:=h1.len
  have e2:=h2.len
  refine Zm.mk (by have:=r1.1; have:=r1.2; omega) (by have:=r2.1; have:=r2.2; omega) (fun y hy=>?_)
  obtain ⟨cs',hR'⟩:=h2.each y hy
  exact aaJ dJ cs' y (by have:=ak.Df hy; omega) hR'
def aCd (xs:List ak):Prop:=xs.length≤maxLen∧∀y∈xs,Zm y
structure ahE (c:ay):Prop where
 term:Zm c.term
 env:c.env.length≤maxLen
structure aCe (m:aN):Prop where
 ct:ahE m.control
 sl:m.stack.length≤maxLen
 st :∀f∈m.stack,ahE f.closure∧f.data.length≤maxLen
 hl:m.heap.length≤maxLen
 hp :∀t∈m.heap,ahE t.closure
theorem aty {w:World} {B:Nat} {cs:List Value} {x:dY} (h:iI w B cs x):aCd x.defs:=by
 obtain ⟨A1,n1,c1,rfl,⟨h1,r1⟩⟩:=h
 have e1:=h1.len
 refine ⟨by have:=r1.1; have:=r1.2; omega,fun y hy=>?_⟩
 obtain ⟨cs',hR⟩:=h1.each y hy
 exact aaJ _ cs' y (Nat.le_refl _) hR
theorem aCf {w:World} {B n1 c1 n2 c2 n3 c3:Nat} {A1 A2 A3:Option Addr} {c:ay} (h1:aY nR 1 w B A1 n1 c.term.data) (r1:n1≤c1∧c1≤maxLen) (h2:aY bf 4 w B A2 n2 c.term.kids) (r2:n2≤c2∧c2≤maxLen) (h3:aY nR 1 w B A3 n3 c.env) (r3:n3≤c3∧c3≤maxLen):ahE c:=by
 have e1:=h1.len
 have e2:=h2.len
 have e3:=h3.len
 refine ⟨Zm.mk (by have:=r1.1; have:=r1.2; omega) (by have:=r2.1; have:=r2.2; omega) (fun y hy=>?_),by have:=r3.1; have:=r3.2; omega⟩
 obtain ⟨cs',hR⟩:=h2.each y hy
 exact aaJ _ cs' y (Nat.le_refl _) hR
theorem atz {w:World} {B:Nat} {cs:List Value} {x:aN} (h:jQ w B cs x):aCe x:=by
 obtain ⟨A1,n1,c1,A2,n2,c2,A3,n3,c3,A4,n4,c4,A5,n5,c5,rfl,⟨h1,r1⟩,⟨h2,r2⟩,⟨h3,r3⟩,⟨h4,r4⟩,⟨h5,r5⟩⟩:=h
 have e4:=h4.len
 have e5:=h5.len
 refine ⟨aCf h1 r1 h2 r2 h3 r3,by have:=r4.1; have:=r4.2; omega,fun f hf=>?_,by have:=r5.1; have:=r5.2; omega,fun t ht=>?_⟩
 ·obtain ⟨cs',A1,n1,c1,A2,n2,c2,A3,n3,c3,A4,n4,c4,rfl,⟨h1,r1⟩,⟨h2,r2⟩,⟨h3,r3⟩,⟨h4,r4⟩⟩:=h4.each f hf
  have e1:=h1.len
  exact ⟨aCf h2 r2 h3 r3 h4 r4,by have:=r1.1; have:=r1.2; omega⟩
 ·obtain ⟨cs',A1,n1,c1,A2,n2,c2,A3,n3,c3,rfl,⟨h1,r1⟩,⟨h2,r2⟩,⟨h3,r3⟩⟩:=h5.each t ht
  exact aCf h1 r1 h2 r2 h3 r3
def Ea (xs:List ak):Nat:=xs.length+E5 xs
theorem Gz (x:ak):rE x=x.data.length+Ea x.kids:=by
 obtain ⟨a,b,c,d⟩:=x
 rw [rE]; rfl
theorem aaK :∀xs:List ak,E5 xs=(xs.map rE).sum
 |[]=>by rw [E5]; rfl
 |x :: xs=>by rw [E5,aaK xs,List.map_cons,List.sum_cons]
theorem ahF (xs:List ak):Ea xs=xs.length+(xs.map rE).sum:=by unfold Ea; rw [aaK]
theorem Xh (x:ak):SizeOf.sizeOf x.kids < SizeOf.sizeOf x:=by
 obtain ⟨a,b,c,d⟩:=x
 simp only [ak.mk.sizeOf_spec]
 omega
theorem abK (xs:List ak):0 < SizeOf.sizeOf xs:=by cases xs <;> simp <;> omega
def Bz (b:dY):Nat:=Ea b.defs
def g_ (c:ay):Nat:=rE c.term+c.env.length
def Ah (f:aO):Nat:=f.data.length+g_ f.closure
def zy (xs:List aO):Nat:=xs.length+(xs.map Ah).sum
def yh (t:bD):Nat:=g_ t.closure
def AV (xs:List bD):Nat:=xs.length+(xs.map yh).sum
def qo (m:aN):Nat:=g_ m.control+(zy m.stack+AV m.heap)
theorem YR {left:Int} {a:Nat} (h:left≤1048576):TV left a≤1048576:=by unfold TV; split <;> omega
theorem aem {left:Int} {a:Nat} : (bif decide (TV left a < 0) then some (-1) else some (TV left a))=some (TV left a):=by
 by_cases hn:TV left a < 0
 ·rw [decide_eq_true hn,cond_true]
  congr 1
  unfold TV at hn ⊢
  split
  ·rfl
  ·rename_i h; rw [if_neg h] at hn; omega
 ·rw [decide_eq_false hn,cond_false]
theorem ahG (xs:List Int) (left:Int) (hl:xs.length≤maxLen) (h0:0≤left) (h1:left≤1048576):uU xs left=some (TV left xs.length):=by
 unfold uU
 have:=YJ hl
 rw [yA (by omega),Option.bind_some]
 by_cases hn:left - (xs.length:Int) < 0
 ·rw [decide_eq_true hn,cond_true,YG (by omega)]
 ·rw [decide_eq_false hn,cond_false,TW hn]
theorem atA :∀dJ:Nat,(∀(xs:List ak) (left:Int),SizeOf.sizeOf xs≤dJ→aCd xs→0≤left→left≤1048576→wS dJ xs left=some (TV left (Ea xs)))∧(∀(x:ak) (left:Int),SizeOf.sizeOf x≤dJ→Zm x→0≤left→left≤1048576→vS dJ x left=some (TV left (rE x)))
 |0=>⟨fun xs left h=>by have:=abK xs; omega,fun x left h=>by have:=x.pos; omega⟩
 |dJ+1=>by
  obtain ⟨i1,i2⟩:=atA dJ
  refine ⟨fun xs left hg ho h0 h1=>?_,fun x left hg ho h0 h1=>?_⟩
  ·have e:wS (dJ+1) xs left=AL (wS dJ) (vS dJ) xs left:=rfl
   rw [e,ahF]
   unfold AL
   have hl:=YJ ho.1
   rw [yA (by omega),Option.bind_some]
   by_cases hn:left - (xs.length:Int) < 0
   ·rw [decide_eq_true hn,cond_true,YG (by omega)]
   ·rw [decide_eq_false hn,cond_false]
    have key:=aKx (L:=lX (vS dJ) xs uI) (d:=xs) (s:=rE) (ok:=Zm)
     (fun g k x left hx h0 h1=>by
      have hm:=List.mem_of_getElem? hx
      have hs:=List.sizeOf_lt_of_mem hm
      simp -implicitDefEqProofs only [lX,zq,LD (lt_of_some hx),cond_true,gG hx,Option.bind_some,i2 x left (by omega) (ho.2 x hm) h0 h1])
     (fun g left=>by simp -implicitDefEqProofs only [lX,zq,LG,cond_false,uI])
     xs.length 0 (xs.length+1) (left - xs.length) (by omega) (by omega) (by omega) (by omega)
    refine key.trans ?_
    rw [List.drop_zero]
    congr 1
    rw [← yR,TW hn,if_neg hn]
  ·have e:vS (dJ+1) x left=B_ (wS dJ) (vS dJ) x left:=rfl
   rw [e,Gz]
   unfold B_
   have hk:=Xh x
   rw [ahG _ _ ho.data h0 h1,Option.bind_some]
   by_cases hn:TV left x.data.length < 0
   ·rw [decide_eq_true hn,cond_true,← yR,if_pos hn]
   ·rw [decide_eq_false hn,cond_false,i1 _ _ (by omega) ⟨ho.len,ho.kids⟩ (by omega) (YR h1),Option.bind_some,aem,← yR,if_neg hn]
theorem aCg (b:dY) (left:Int) (ho:aCd b.defs) (h0:0≤left) (h1:left≤1048576):JU b left=some (TV left (Bz b)):=by
 unfold JU Bz
 rw [(atA _).1 _ _ (Nat.le_refl _) ho h0 h1,Option.bind_some,aem]
theorem Xi (c:ay) (left:Int) (ho:ahE c) (h0:0≤left) (h1:left≤1048576):su c left=some (TV left (g_ c)):=by
 unfold su g_
 rw [PW,(atA _).2 _ _ (Nat.le_refl _) ho.term h0 h1,Option.bind_some]
 by_cases hn:TV left (rE c.term) < 0
 ·rw [decide_eq_true hn,cond_true,← yR,if_pos hn]
 ·rw [decide_eq_false hn,cond_false,ahG _ _ ho.env (by omega) (YR h1),Option.bind_some,aem,← yR,if_neg hn]
theorem atB (xs:List aO) (left:Int) (hl:xs.length≤maxLen) (ho :∀f∈xs,ahE f.closure∧f.data.length≤maxLen) (h0:0≤left) (h1:left≤1048576):Cb xs left=some (TV left (zy xs)):=by
 have one :∀f∈xs,∀left:Int,0≤left→left≤1048576→DJ f left=some (TV left (Ah f)):=fun f hf left h0 h1=>by
  unfold DJ Ah
  rw [D_,ahG _ _ (ho f hf).2 h0 h1,Option.bind_some]
  by_cases hn:TV left f.data.length < 0
  ·rw [decide_eq_true hn,cond_true,← yR,if_pos hn]
  ·rw [decide_eq_false hn,cond_false,Xi _ _ (ho f hf).1 (by omega) (YR h1),Option.bind_some,aem,← yR,if_neg hn]
 unfold Cb zy
 have hl':=YJ hl
 rw [yA (by omega),Option.bind_some]
 by_cases hn:left - (xs.length:Int) < 0
 ·rw [decide_eq_true hn,cond_true,YG (by omega)]
 ·rw [decide_eq_false hn,cond_false]
  have key:=aKx (L:=kK xs sD) (d:=xs) (s:=Ah) (ok:=fun _=>True)
   (fun g k x left hx h0 h1=>by
    have hm:=List.mem_of_getElem? hx
    simp -implicitDefEqProofs only [kK,wU,LD (lt_of_some hx),cond_true,gG hx,Option.bind_some,one x hm left h0 h1])
   (fun g left=>by simp -implicitDefEqProofs only [kK,wU,LG,cond_false,sD])
   xs.length 0 (xs.length+1) (left - xs.length) (by omega) (by omega) (by omega) (by omega)
  refine key.trans ?_
  rw [List.drop_zero]
  congr 1
  rw [← yR,TW hn,if_neg hn]
theorem atC (xs:List bD) (left:Int) (hl:xs.length≤maxLen) (ho :∀t∈xs,ahE t.closure) (h0:0≤left) (h1:left≤1048576):Cc xs left=some (TV left (AV xs)):=by
 have one :∀t∈xs,∀left:Int,0≤left→left≤1048576→DK t left=some (TV left (yh t)):=fun t ht left h0 h1=>by
  unfold DK yh
  rw [D_,Xi _ _ (ho t ht) h0 h1,Option.bind_some,aem]
 unfold Cc AV
 have hl':=YJ hl
 rw [yA (by omega),Option.bind_some]
 by_cases hn:left - (xs.length:Int) < 0
 ·rw [decide_eq_true hn,cond_true,YG (by omega)]
 ·rw [decide_eq_false hn,cond_false]
  have key:=aKx (L:=kL xs sF) (d:=xs) (s:=yh) (ok:=fun _=>True)
   (fun g k x left hx h0 h1=>by
    have hm:=List.mem_of_getElem? hx
    simp -implicitDefEqProofs only [kL,wV,LD (lt_of_some hx),cond_true,gG hx,Option.bind_some,one x hm left h0 h1])
   (fun g left=>by simp -implicitDefEqProofs only [kL,wV,LG,cond_false,sF])
   xs.length 0 (xs.length+1) (left - xs.length) (by omega) (by omega) (by omega) (by omega)
  refine key.trans ?_
  rw [List.drop_zero]
  congr 1
  rw [← yR,TW hn,if_neg hn]
theorem aCh (m:aN) (left:Int) (ho:aCe m) (h0:0≤left) (h1:left≤1048576):JV m left=some (TV left (qo m)):=by
 unfold JV qo
 rw [D_,Xi _ _ ho.ct h0 h1,Option.bind_some]
 by_cases hn:TV left (g_ m.control) < 0
 ·rw [decide_eq_true hn,cond_true,← yR,if_pos hn]
 ·rw [decide_eq_false hn,cond_false,atB _ _ ho.sl ho.st (by omega) (YR h1),Option.bind_some]
  rw [← yR,if_neg hn]
  generalize hz:TV left (g_ m.control)=z at hn ⊢
  have hz1:z≤1048576:=by rw [← hz]; exact YR h1
  by_cases hn2:TV z (zy m.stack) < 0
  ·rw [decide_eq_true hn2,cond_true,← yR,if_pos hn2]
  ·rw [decide_eq_false hn2,cond_false,atC _ _ ho.hl ho.hp (by omega) (YR hz1),Option.bind_some,aem,← yR,if_neg hn2]
theorem aaL {xs:List ak} {x:ak} (h:x∈xs):rE x≤E5 xs:=by rw [aaK]; exact Hl (f:=rE) h
/-- Small sizes make all small that is asked of. -/
theorem aql {b:dY} {m:aN} (hb:Bz b≤1048576) (hm:qo m≤1048576):ad4 b m:=by
 unfold Bz Ea at hb
 unfold qo zy AV g_ at hm
 refine ⟨by omega,by omega,by omega,fun x hx=>?_,⟨?_,by omega⟩,fun f hf=>?_,fun t ht=>?_⟩
 ·have h1:=aaL hx
  have h2:=SS x
  omega
 ·have h2:=SS m.control.term
  omega
 ·have h1:=Hl (f:=Ah) hf
  have h2:=SS f.closure.term
  have e:Ah f=f.data.length+(rE f.closure.term+f.closure.env.length):=rfl
  exact ⟨by omega,by omega⟩
 ·have h1:=Hl (f:=yh) ht
  have h2:=SS t.closure.term
  have e:yh t=rE t.closure.term+t.closure.env.length:=rfl
  exact ⟨by omega,by omega⟩
end
section
open Go.RowKit
noncomputable instance:DecidableEq ak:=fun a b=>Classical.propDecidable (a=b)
noncomputable instance:DecidableEq dY:=fun a b=>Classical.propDecidable (a=b)
noncomputable instance:DecidableEq ay:=fun a b=>Classical.propDecidable (a=b)
noncomputable instance:DecidableEq aO:=fun a b=>Classical.propDecidable (a=b)
noncomputable instance:DecidableEq bD:=fun a b=>Classical.propDecidable (a=b)
noncomputable instance:DecidableEq aN:=fun a b=>Classical.propDecidable (a=b)
theorem aG9 (x y:ak):decide (x=y)=(x.kind==y.kind && (x.value==y.value && (decide (x.data=y.data) && decide (x.kids=y.kids)))):=by
 rw [Bool.eq_iff_iff]
 obtain ⟨a,b,c,d⟩:=x
 obtain ⟨a',b',c',d'⟩:=y
 simp
theorem aL2 (x y:ay):decide (x=y)=(decide (x.term=y.term) && decide (x.env=y.env)):=by
 rw [Bool.eq_iff_iff]
 obtain ⟨a,b⟩:=x
 obtain ⟨a',b'⟩:=y
 simp
theorem aRO (x y:aO):decide (x=y)=(x.kind==y.kind && (x.value==y.value && (decide (x.data=y.data) && decide (x.closure=y.closure)))):=by
 rw [Bool.eq_iff_iff]
 obtain ⟨a,b,c,d⟩:=x
 obtain ⟨a',b',c',d'⟩:=y
 simp
theorem aRP (x y:bD):decide (x=y)=(x.done==y.done && decide (x.closure=y.closure)):=by
 rw [Bool.eq_iff_iff]
 obtain ⟨a,b⟩:=x
 obtain ⟨a',b'⟩:=y
 simp
theorem aG_ (x y:aN):decide (x=y)=(decide (x.control=y.control) && (decide (x.stack=y.stack) && decide (x.heap=y.heap))):=by
 rw [Bool.eq_iff_iff]
 obtain ⟨a,b,c⟩:=x
 obtain ⟨a',b',c'⟩:=y
 simp
theorem aHa (x y:dY):decide (x=y)=decide (x.defs=y.defs):=by
 rw [Bool.eq_iff_iff]
 obtain ⟨a⟩:=x
 obtain ⟨a'⟩:=y
 simp
theorem aen (xs ys:List Int):uV xs ys=some (decide (xs=ys)):=by
 unfold uV
 rw [Ug]
 by_cases hl:xs.length=ys.length
 ·rw [decide_eq_true hl,Bool.not_true,cond_false]
  exact awf (L:=kM xs ys sG) (q:=fun x y=>some (decide (x=y))) hl (fun x _ y=>rfl)
   (fun g k hx hy=>by
    simp -implicitDefEqProofs only [kM,wW,LD hx,cond_true,gG (List.getElem?_eq_getElem hx),gG (List.getElem?_eq_getElem hy),Option.bind_some,aGQ]
    cases decide (xs[k] = ys[k]) <;> rfl)
   (fun g=>by simp -implicitDefEqProofs only [kM,wW,LG,cond_false,sG])
 ·rw [decide_eq_false hl,Bool.not_false,cond_true,NM hl]
theorem atD :∀dJ:Nat,(∀(xs ys:List ak),SizeOf.sizeOf xs≤dJ→wX dJ xs ys=some (decide (xs=ys)))∧(∀(x y:ak),SizeOf.sizeOf x≤dJ→sZ dJ x y=some (decide (x=y)))
 |0=>⟨fun xs ys h=>by have:=abK xs; omega,fun x y h=>by have:=x.pos; omega⟩
 |dJ+1=>by
  obtain ⟨i1,i2⟩:=atD dJ
  refine ⟨fun xs ys hg=>?_,fun x y hg=>?_⟩
  ·have e:wX (dJ+1) xs ys=AO (wX dJ) (sZ dJ) xs ys:=rfl
   rw [e]
   unfold AO
   rw [Ug]
   by_cases hl:xs.length=ys.length
   ·rw [decide_eq_true hl,Bool.not_true,cond_false]
    exact awf (L:=lY (sZ dJ) xs ys uJ) (q:=sZ dJ) hl (fun x hx y=>i2 x y (by have:=List.sizeOf_lt_of_mem hx; omega))
     (fun g k hx hy=>by simp -implicitDefEqProofs only [lY,zu,LD hx,cond_true,gG (List.getElem?_eq_getElem hx),gG (List.getElem?_eq_getElem hy),Option.bind_some])
     (fun g=>by simp -implicitDefEqProofs only [lY,zu,LG,cond_false,uJ])
   ·rw [decide_eq_false hl,Bool.not_false,cond_true,NM hl]
  ·have e:sZ (dJ+1) x y=Ce (wX dJ) (sZ dJ) x y:=rfl
   have hk:=Xh x
   rw [e,aG9]
   unfold Ce
   rw [i1 _ _ (by omega),aen,Option.bind_some,Option.bind_some,show (x.kind != y.kind) = !(x.kind==y.kind) from rfl,show (x.value != y.value) = !(x.value==y.value) from rfl]
   cases x.kind==y.kind <;> cases x.value==y.value <;> cases decide (x.data=y.data) <;> cases decide (x.kids=y.kids) <;> rfl
theorem aCi (x y:dY):JW x y=some (decide (x=y)):=by
 unfold JW
 rw [(atD _).1 _ _ (Nat.le_refl _),Option.bind_some,aHa]
 cases decide (x.defs=y.defs) <;> rfl
theorem Xj (x y:ay):sH x y=some (decide (x=y)):=by
 unfold sH
 rw [PW,PW,(atD _).2 _ _ (Nat.le_refl _),aen,Option.bind_some,Option.bind_some,aL2]
 cases decide (x.term=y.term) <;> cases decide (x.env=y.env) <;> rfl
theorem aye (x y:aO):AP x y=some (decide (x=y)):=by
 unfold AP
 rw [D_,D_,Xj,aen,Option.bind_some,Option.bind_some,aRO,show (x.kind != y.kind) = !(x.kind==y.kind) from rfl,show (x.value != y.value) = !(x.value==y.value) from rfl]
 cases x.kind==y.kind <;> cases x.value==y.value <;> cases decide (x.data=y.data) <;> cases decide (x.closure=y.closure) <;> rfl
theorem atE (xs ys:List aO):Ci xs ys=some (decide (xs=ys)):=by
 unfold Ci
 rw [Ug]
 by_cases hl:xs.length=ys.length
 ·rw [decide_eq_true hl,Bool.not_true,cond_false]
  exact awf (L:=kN xs ys sJ) (q:=AP) hl (fun x _ y=>aye x y)
   (fun g k hx hy=>by simp -implicitDefEqProofs only [kN,wY,LD hx,cond_true,gG (List.getElem?_eq_getElem hx),gG (List.getElem?_eq_getElem hy),Option.bind_some])
   (fun g=>by simp -implicitDefEqProofs only [kN,wY,LG,cond_false,sJ])
 ·rw [decide_eq_false hl,Bool.not_false,cond_true,NM hl]
theorem ayf (x y:bD):AQ x y=some (decide (x=y)):=by
 unfold AQ
 rw [D_,D_,Xj,Option.bind_some,aRP,show (x.done != y.done) = !(x.done==y.done) from rfl]
 cases x.done==y.done <;> cases decide (x.closure=y.closure) <;> rfl
theorem atF (xs ys:List bD):Cj xs ys=some (decide (xs=ys)):=by
 unfold Cj
 rw [Ug]
 by_cases hl:xs.length=ys.length
 ·rw [decide_eq_true hl,Bool.not_true,cond_false]
  exact awf (L:=kP xs ys sK) (q:=AQ) hl (fun x _ y=>ayf x y)
   (fun g k hx hy=>by simp -implicitDefEqProofs only [kP,wZ,LD hx,cond_true,gG (List.getElem?_eq_getElem hx),gG (List.getElem?_eq_getElem hy),Option.bind_some])
   (fun g=>by simp -implicitDefEqProofs only [kP,wZ,LG,cond_false,sK])
 ·rw [decide_eq_false hl,Bool.not_false,cond_true,NM hl]
theorem aCj (x y:aN):JX x y=some (decide (x=y)):=by
 unfold JX
 rw [D_,D_,Xj,atE,atF,Option.bind_some,Option.bind_some,Option.bind_some,aG_]
 cases decide (x.control=y.control) <;> cases decide (x.stack=y.stack) <;> cases decide (x.heap=y.heap) <;> rfl
theorem atG :∀dJ:Nat,(∀(xs:List ak),SizeOf.sizeOf xs≤dJ→Ea xs≤1048576→w_ dJ xs=some xs)∧(∀(x:ak),SizeOf.sizeOf x≤dJ→rE x≤1048576→vT dJ x=some x)
 |0=>⟨fun xs h=>by have:=abK xs; omega,fun x h=>by have:=x.pos; omega⟩
 |dJ+1=>by
  obtain ⟨i1,i2⟩:=atG dJ
  refine ⟨fun xs hg hs=>?_,fun x hg hs=>?_⟩
  ·have e:w_ (dJ+1) xs=AU (w_ dJ) (vT dJ) xs:=rfl
   rw [ahF] at hs
   rw [e]
   unfold AU
   rw [kZ (by omega),Option.bind_some]
   refine awd (L:=lZ (vT dJ) xs uK) (K:=some)
    (fun g k acc hk hg2=>?_)
    (fun g acc=>by simp -implicitDefEqProofs only [lZ,zx,LG,cond_false,uK])
   have hm:=List.getElem_mem hk
   have h1:=List.sizeOf_lt_of_mem hm
   have h2:=Hl (f:=rE) hm
   simp -implicitDefEqProofs only [lZ,zx,LD hk,cond_true,gG (List.getElem?_eq_getElem hk),Option.bind_some,hg2,i2 xs[k] (by omega) (by omega)]
  ·have e:vT (dJ+1) x=Cm (w_ dJ) (vT dJ) x:=rfl
   have hk:=Xh x
   rw [Gz] at hs
   rw [e]
   unfold Cm
   rw [i1 _ (by omega) (by omega),aaE _ (by omega),Option.bind_some,Option.bind_some]
   cases x; rfl
theorem aCk (b:dY) (hs:Bz b≤1048576):JY b=some b:=by
 unfold Bz at hs
 unfold JY
 rw [(atG _).1 _ (Nat.le_refl _) hs,Option.bind_some]
theorem Xk (c:ay) (hs:g_ c≤1048576):sN c=some c:=by
 unfold g_ at hs
 unfold sN
 rw [PW,(atG _).2 _ (Nat.le_refl _) (by omega),aaE _ (by omega),Option.bind_some,Option.bind_some,PW]
theorem ayg (f:aO) (hs:Ah f≤1048576):DL f=some f:=by
 unfold Ah at hs
 unfold DL
 rw [D_,aaE _ (by omega),Xk _ (by omega),Option.bind_some,Option.bind_some,D_]
theorem atH (xs:List aO) (hs:zy xs≤1048576):CG xs=some xs:=by
 unfold zy at hs
 unfold CG
 rw [kZ (by omega),Option.bind_some]
 exact awd (L:=kQ xs sO) (xs:=xs) (K:=some)
  (fun g k acc hk hg=>by
   have hm:=Hl (f:=Ah) (List.getElem_mem hk)
   simp -implicitDefEqProofs only [kQ,xg,LD hk,cond_true,gG (List.getElem?_eq_getElem hk),Option.bind_some,hg,ayg xs[k] (by omega)])
  (fun g acc=>by simp -implicitDefEqProofs only [kQ,xg,LG,cond_false,sO])
theorem ayh (t:bD) (hs:yh t≤1048576):DN t=some t:=by
 unfold yh at hs
 unfold DN
 rw [D_,Xk _ (by omega),Option.bind_some,D_]
theorem atI (xs:List bD) (hs:AV xs≤1048576):CJ xs=some xs:=by
 unfold AV at hs
 unfold CJ
 rw [kZ (by omega),Option.bind_some]
 exact awd (L:=kR xs sQ) (xs:=xs) (K:=some)
  (fun g k acc hk hg=>by
   have hm:=Hl (f:=yh) (List.getElem_mem hk)
   simp -implicitDefEqProofs only [kR,xk,LD hk,cond_true,gG (List.getElem?_eq_getElem hk),Option.bind_some,hg,ayh xs[k] (by omega)])
  (fun g acc=>by simp -implicitDefEqProofs only [kR,xk,LG,cond_false,sQ])
theorem aCl (m:aN) (hs:qo m≤1048576):JZ m=some m:=by
 unfold qo at hs
 unfold JZ
 rw [D_,Xk _ (by omega),atH _ (by omega),atI _ (by omega),Option.bind_some,Option.bind_some,Option.bind_some,D_]
end
end Go.Proofs.YtkfmlehhbanopaaGreat
