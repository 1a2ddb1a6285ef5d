/- Lemmas of the proof of ReadNet, part 6. No condition. -/
import Derived.Test.YtkfmlehhbanopaaGreatDoorZReadNet5
namespace Go.Proofs.YtkfmlehhbanopaaGreatDoor
set_option linter.unusedVariables false
set_option linter.unusedSimpArgs false
section
open Go.RowKit
/-- What holds of the world: S1 as long as operation k has not come up, S2 always. -/
def PhB (S1 S2:World→Prop) (ph:Bool) (w:World):Prop:=(ph=false→S1 w)∧S2 w
section
variable {P : Program} {ops : Array Oper} {Q : Exit → Act → World → Prop} {S1 S2 C : World → Prop} {k : Nat}
/-- Whatever order is picked, and what holds of the world goes on holding. -/
def anyX (P:Program) (ops:Array Oper) (Q:Exit→Act→World→Prop) (S1 S2:World→Prop) (k:Nat):Nat→Array Bool→Act→World→Prop
  |0,listed,a,w=>Region.ready .any ops listed=[]∧Q .normal a w
  |m+1,listed,a,w=>(Region.ready .any ops listed=[]→Q .normal a w)∧∀i∈Region.ready .any ops listed,
      wpOp P ops Q i (fun a' w'=>PhB S1 S2 ((listed.setIfInBounds i true).getD k true) w'∧anyX P ops Q S1 S2 k m (listed.setIfInBounds i true) a' w') a w
theorem any_of_X :∀(m:Nat) (listed:Array Bool) (a:Act) (w:World),anyX P ops Q S1 S2 k m listed a w→wpAny P .any ops Q m listed a w
  |0,_,_,_,h=>h
  |m+1,_,_,_,h=>⟨h.1,fun i hi=>wpOp_mono (fun a' w' h'=>any_of_X m _ a' w' h'.2) (h.2 i hi)⟩
/-- An operation that only looks is taken first: its value is the same wherever C holds, and C holds until it comes up. -/
theorem anyX_first {i:Nat} {oi:Oper} {v:Value} {Inv:Array Bool→Prop} (hi:ops[i]? = some oi) (hs:Region.noSelect ops=true) (hQ :∀c a w,Q (.panic c) (a.put oi.dst v) w→Q (.panic c) a w) (hik:i ≠ k)
    (hC :∀l w,Inv l→PhB S1 S2 (l.getD k true) w→C w) (hI :∀l j,Inv l→l.getD i true=false→j∈Region.ready .any ops l→j ≠ i→Inv (l.setIfInBounds j true)) :
    ∀(m:Nat) (listed:Array Bool) (a:Act) (w:World),Inv listed→(∀j oj,ops[j]? = some oj→j ≠ i→listed.getD j true=false→(∀e∈oj.after,Region.binds .any e=true→e.on ≠ i)→oi.apart ops oj=true)→
      i∈Region.ready .any ops listed→YieldsIf P ops C oi v a→PhB S1 S2 (listed.getD k true) w→anyX P ops Q S1 S2 k m (listed.setIfInBounds i true) (a.put oi.dst v) w→anyX P ops Q S1 S2 k (m+1) listed a w:=by
  have hk :∀l:Array Bool,(l.setIfInBounds i true).getD k true=l.getD k true:=fun l=>getD_set_ne true hik
  have own :∀m listed a w,Inv listed→YieldsIf P ops C oi v a→PhB S1 S2 (listed.getD k true) w→anyX P ops Q S1 S2 k m (listed.setIfInBounds i true) (a.put oi.dst v) w→
      wpOp P ops Q i (fun a' w'=>PhB S1 S2 ((listed.setIfInBounds i true).getD k true) w'∧anyX P ops Q S1 S2 k m (listed.setIfInBounds i true) a' w') a w:=
    fun m listed a w hv hy hS H=>hy.wpOp hi (hC _ _ hv hS) ⟨by rw [hk]; exact hS,H⟩
  intro m
  induction m with
  |zero=>
    intro listed a w hv hfree hr hy hS H
    refine ⟨fun h=>absurd hr (by rw [h]; exact List.not_mem_nil),fun j hj=>?_⟩
    by_cases e:j=i
    · subst e; exact own 0 listed a w hv hy hS H
    · exact absurd (ready_mono hj e) (by rw [H.1]; exact List.not_mem_nil)
  |succ m ih=>
    intro listed a w hv hfree hr hy hS H
    refine ⟨fun h=>absurd hr (by rw [h]; exact List.not_mem_nil),fun j hj=>?_⟩
    by_cases e:j=i
    · subst e; exact own (m+1) listed a w hv hy hS H
    · obtain ⟨hi0,_⟩:=mem_ready.1 hr
      obtain ⟨hj0,oj,hoj,hall⟩:=mem_ready.1 hj
      have hno :∀x∈oj.after,Region.binds .any x=true→x.on ≠ i:=fun x hx hb he=>by
        have h1:=hall x hx hb
        rw [he] at h1
        by_cases hl:i < listed.size
        · simp [hl] at h1 hi0; rw [hi0] at h1; cases h1
        · simp [Array.getElem?_eq_none (Nat.not_lt.1 hl)] at h1
      have h2:=wpOp_putIf hoj (hfree j oj hoj e hj0 hno) (fun cs b=>Region.noSelect_spec hs i oi cs b hi) (fun cs b=>Region.noSelect_spec hs j oj cs b hoj) hQ hy (H.2 j (ready_mono hj e))
      refine wpOp_mono (fun a' w' h3=>?_) h2
      obtain ⟨hy',hS',h4⟩:=h3
      have hcomm:(listed.setIfInBounds i true).setIfInBounds j true=(listed.setIfInBounds j true).setIfInBounds i true:=(Array.setIfInBounds_comm _ _ (Ne.symm e))
      have hS2:PhB S1 S2 ((listed.setIfInBounds j true).getD k true) w':=by rw [hcomm,hk] at hS'; exact hS'
      refine ⟨hS2,ih _ a' w' (hI _ _ hv hi0 hj e) (fun q oq hq hqi hq0 hqn=>hfree q oq hq hqi ?_ hqn) (ready_mono hr (Ne.symm e)) hy' hS2 (by rw [hcomm] at h4; exact h4)⟩
      by_cases hjq:j=q
      · subst hjq; exact hj0
      · rw [getD_set_ne true hjq] at hq0; exact hq0
end
inductive OX where
  |nil|q (i:Nat) (r:OX)|e (i:Nat) (r:OX)|a (i:Nat) (r:OX)|two (i:Nat) (r1:OX) (j:Nat) (r2:OX)
def OX.len:OX→Nat
  |.nil=>0
  |.q _ r=>r.len+1
  |.e _ r=>r.len+1
  |.a _ r=>r.len+1
  |.two _ r1 _ _=>r1.len+1
section
variable {P : Program} {ops : Array Oper} {S1 S2 : World → Prop} {k : Nat}
def lookX (P:Program) (ops:Array Oper) (C:World→Prop) (i:Nat) (K:(Nat→Value)→Prop) (f:Nat→Value):Prop:=
  match ops[i]? with
  |none=>False
  |some o=>∃v,((wantF f ops o=true∧∀w,C w→(execOp (ev f) o).run P w=.ok (.value v) w) ∨ (wantF f ops o=false∧v=undef))∧K (upo f o.dst v)
def RX (P:Program) (ops:Array Oper) (S1 S2:World→Prop) (k:Nat) (Q:(Nat→Value)→World→Prop):OX→Bool→(Nat→Value)→World→Prop
  |.nil,_,f,w=>Q f w
  |.q i r,ph,f,w=>lookX P ops S2 i (fun f'=>RX P ops S1 S2 k Q r ph f' w) f
  |.e i r,ph,f,w=>lookX P ops (fun w=>S1 w∧S2 w) i (fun f'=>RX P ops S1 S2 k Q r ph f' w) f
  |.a i r,ph,f,w=>ActAt P ops (fun f' w'=>PhB S1 S2 (ph||i==k) w'∧RX P ops S1 S2 k Q r (ph||i==k) f' w') i f w
  |.two i r1 j r2,ph,f,w=>ActAt P ops (fun f' w'=>PhB S1 S2 (ph||i==k) w'∧RX P ops S1 S2 k Q r1 (ph||i==k) f' w') i f w∧ActAt P ops (fun f' w'=>PhB S1 S2 (ph||j==k) w'∧RX P ops S1 S2 k Q r2 (ph||j==k) f' w') j f w
def waitsX (ops:Array Oper) (k i:Nat):Bool:=((ops[k]?).map (·.after.any fun e=>Region.binds .any e && e.on==i)).getD false
def ordX (ops:Array Oper) (k:Nat):OX→Array Bool→Bool
  |.nil,listed=>(Region.ready .any ops listed).isEmpty
  |.q i r,listed=>(Region.ready .any ops listed).contains i && Region.free .any ops listed i && !(i==k) && ordX ops k r (listed.setIfInBounds i true)
  |.e i r,listed=>(Region.ready .any ops listed).contains i && Region.free .any ops listed i && !(i==k) && !(listed.getD k true) && waitsX ops k i && ordX ops k r (listed.setIfInBounds i true)
  |.a i r,listed=>decide (Region.ready .any ops listed=[i]) && ordX ops k r (listed.setIfInBounds i true)
  |.two i r1 j r2,listed=>decide (Region.ready .any ops listed=[i,j]) && ordX ops k r1 (listed.setIfInBounds i true) && ordX ops k r2 (listed.setIfInBounds j true) && decide (r1.len=r2.len)
theorem getK {listed:Array Bool} {i k:Nat} (hk:k < listed.size):(listed.setIfInBounds i true).getD k true=(listed.getD k true||i==k):=by
  by_cases e:i=k
  · subst e; simp [hk]
  · rw [getD_set_ne true e]; simp [e]
theorem actX_op {n:Nat} {Q':Exit→Act→World→Prop} (hok :∀(i:Nat) (o:Oper),ops[i]? = some o→okOp n ops o=true) {K:(Nat→Value)→World→Prop} {K2:Act→World→Prop} {f:Nat→Value} {w:World} {j:Nat}
    (hK :∀f w,K f w→K2 (Fr n f) w) (h:ActAt P ops K j f w):wpOp P ops Q' j K2 (Fr n f) w:=by
  unfold ActAt at h
  cases ho:ops[j]? with
  |none=>rw [ho] at h; exact h.elim
  |some o=>
    rw [ho] at h
    have hk:=hok j o ho
    unfold wpOp
    rw [ho]
    simp only
    rw [Fr_wanted hk]
    have key :∀v w',K (upo f o.dst v) w'→K2 ((Fr n f).put o.dst v) w':=fun v w' h1=>by
      rw [Fr_put]; exact hK _ _ h1
    rcases h with ⟨hw,h⟩|⟨hw,h1⟩
    · rw [hw,if_pos rfl]
      left
      unfold Oper.wp
      rw [Fr_exec hk]
      refine OpX_wp ?_
      revert h
      generalize (execOp (ev f) o).run P w=r
      intro h
      cases r with
      |ok nx w'=>
        cases nx <;> simp only [OpX] at h ⊢ <;> try exact key _ _ h
        case enter g args=>exact h.mono fun e w'' ⟨v,he,hk⟩=>⟨v,he,key _ _ hk⟩
      |halt x w'=>simp only [OpX] at h
    · rw [hw,if_neg (by decide)]
      exact key _ _ h1
theorem RX_H {n:Nat} {Q:(Nat→Value)→World→Prop} {Q':Exit→Act→World→Prop} (hQ :∀f w,Q f w→Q' .normal (Fr n f) w) (hP :∀c a w,¬ Q' (.panic c) a w) (hsel:Region.noSelect ops=true) (hok :∀(i:Nat) (o:Oper),ops[i]? = some o→okOp n ops o=true) :
    ∀(l:OX) (listed:Array Bool) (f:Nat→Value) (w:World),k < listed.size→ordX ops k l listed=true→PhB S1 S2 (listed.getD k true) w→RX P ops S1 S2 k Q l (listed.getD k true) f w→anyX P ops Q' S1 S2 k l.len listed (Fr n f) w
  |.nil,listed,f,w,hsz,hB,hS,h=>⟨by simpa [ordX] using hB,hQ f w h⟩
  |.q i rest,listed,f,w,hsz,hB,hS,h=>by
    simp only [ordX,Bool.and_eq_true,Bool.not_eq_true',beq_eq_false_iff_ne] at hB
    obtain ⟨⟨⟨hr,hf⟩,hik⟩,hB⟩:=hB
    unfold RX lookX at h
    cases ho:ops[i]? with
    |none=>rw [ho] at h; exact h.elim
    |some o=>
      rw [ho] at h
      obtain ⟨v,h1,h2⟩:=h
      have hk:=hok i o ho
      have hkk:(listed.setIfInBounds i true).getD k true=listed.getD k true:=getD_set_ne true hik
      refine anyX_first (C:=S2) (Inv:=fun _=>True) (v:=v) ho hsel (fun c a w h=>absurd h (hP c _ w)) hik (fun l w _ h=>h.2) (fun _ _ _ _ _ _=>trivial) rest.len listed _ w trivial (Region.free_spec ho hf) (by simpa using hr) ?_ hS ?_
      · rcases h1 with ⟨hw,h1⟩|⟨hw,e⟩
        · exact .inl ⟨by rw [Fr_wanted hk]; exact hw,fun w hw'=>by rw [Fr_exec hk]; exact h1 w hw'⟩
        · exact .inr ⟨by rw [Fr_wanted hk]; exact hw,e⟩
      · rw [Fr_put]
        exact RX_H hQ hP hsel hok rest _ _ w (by simpa using hsz) hB (by rw [hkk]; exact hS) (by rw [hkk]; exact h2)
  |.e i rest,listed,f,w,hsz,hB,hS,h=>by
    simp only [ordX,Bool.and_eq_true,Bool.not_eq_true',beq_eq_false_iff_ne] at hB
    obtain ⟨⟨⟨⟨⟨hr,hf⟩,hik⟩,hph⟩,hwt⟩,hB⟩:=hB
    unfold RX lookX at h
    cases ho:ops[i]? with
    |none=>rw [ho] at h; exact h.elim
    |some o=>
      rw [ho] at h
      obtain ⟨v,h1,h2⟩:=h
      have hk:=hok i o ho
      have hkk:(listed.setIfInBounds i true).getD k true=listed.getD k true:=getD_set_ne true hik
      refine anyX_first (C:=fun w=>S1 w∧S2 w) (Inv:=fun l=>l.getD k true=false) (v:=v) ho hsel (fun c a w h=>absurd h (hP c _ w)) hik (fun l w hl h=>⟨h.1 hl,h.2⟩) (fun l j hl hi0 hj hji=>?_) rest.len listed _ w hph (Region.free_spec ho hf) (by simpa using hr) ?_ hS ?_
      · by_cases e:j=k
        · subst e
          obtain ⟨_,oj,hoj,hall⟩:=mem_ready.1 hj
          unfold waitsX at hwt
          rw [hoj] at hwt
          simp only [Option.map_some,Option.getD_some] at hwt
          obtain ⟨x,hx,hb⟩:=Array.any_eq_true'.1 hwt
          simp only [Bool.and_eq_true,beq_iff_eq] at hb
          have h3:=hall x hx hb.1
          rw [hb.2] at h3
          by_cases hl2:i < l.size
          · simp [hl2] at h3 hi0; rw [hi0] at h3; cases h3
          · simp [Array.getElem?_eq_none (Nat.not_lt.1 hl2)] at h3
        · rw [getD_set_ne true e]; exact hl
      · rcases h1 with ⟨hw,h1⟩|⟨hw,e⟩
        · exact .inl ⟨by rw [Fr_wanted hk]; exact hw,fun w hw'=>by rw [Fr_exec hk]; exact h1 w hw'⟩
        · exact .inr ⟨by rw [Fr_wanted hk]; exact hw,e⟩
      · rw [Fr_put]
        exact RX_H hQ hP hsel hok rest _ _ w (by simpa using hsz) hB (by rw [hkk]; exact hS) (by rw [hkk]; exact h2)
  |.a i rest,listed,f,w,hsz,hB,hS,h=>by
    simp only [ordX,Bool.and_eq_true,decide_eq_true_eq] at hB
    obtain ⟨hr,hB⟩:=hB
    refine ⟨fun h0=>absurd (h0.symm.trans hr) (by simp),fun j hj=>?_⟩
    obtain rfl:j=i:=by rw [hr] at hj; simpa using hj
    refine actX_op hok (fun f w hK=>?_) h
    rw [← getK hsz] at hK
    exact ⟨hK.1,RX_H hQ hP hsel hok rest _ _ w (by simpa using hsz) hB hK.1 hK.2⟩
  |.two i r1 j r2,listed,f,w,hsz,hB,hS,h=>by
    simp only [ordX,Bool.and_eq_true,decide_eq_true_eq] at hB
    obtain ⟨⟨⟨hr,hB1⟩,hB2⟩,hl⟩:=hB
    refine ⟨fun h0=>absurd (h0.symm.trans hr) (by simp),fun q hq=>?_⟩
    have hq':q=i ∨ q=j:=by rw [hr] at hq; simpa using hq
    rcases hq' with rfl|rfl
    · refine actX_op hok (fun f w hK=>?_) h.1
      rw [← getK hsz] at hK
      exact ⟨hK.1,RX_H hQ hP hsel hok r1 _ _ w (by simpa using hsz) hB1 hK.1 hK.2⟩
    · refine actX_op hok (fun f w hK=>?_) h.2
      rw [← getK hsz] at hK
      refine ⟨hK.1,?_⟩
      show anyX P ops Q' S1 S2 k r1.len _ _ _
      rw [hl]
      exact RX_H hQ hP hsel hok r2 _ _ w (by simpa using hsz) hB2 hK.1 hK.2
theorem wp_rgx {id n:Nat} {l:List Oper} {f:Nat→Value} {w:World} {Q:Exit→Act→World→Prop} (S1 S2:World→Prop) (k:Nat) (ord:OX) (hm:P.follows .mixedOrders=true)
    (hin:(okAll n l && Region.noSelect l.toArray && decide (ord.len=l.length) && decide (k < l.length) && ordX l.toArray k ord (Array.replicate l.length false))=true)
    (h :∀w1,Below w.heap.size w w1→w1.heap.size=w.heap.size→(S1 w1∧S2 w1)∧RX P l.toArray S1 S2 k (fun f' w'=>Q .normal (Fr n f') w') ord false f w1):(Code.region id l.toArray true).wp P Q (Fr n f) w:=by
  simp only [Bool.and_eq_true,decide_eq_true_eq] at hin
  obtain ⟨⟨⟨⟨h1,h2⟩,h3⟩,hk⟩,h4⟩:=hin
  refine Code.wp_mono (Q:=noP Q) (fun e a w hq=>by cases e <;> first|exact hq|exact hq.elim) ?_
  refine wp_region_any hm (any_of_X (S1:=S1) (S2:=S2) (k:=k) _ _ _ _ ?_)
  obtain ⟨hS,hR⟩:=h { w with drawn:=w.drawn+1 } ⟨rfl,rfl,rfl,Nat.le_refl _,fun _ _=>rfl⟩ rfl
  have hf:(Array.replicate l.length false).getD k true=false:=by simp [hk]
  have:=RX_H (Q':=noP Q) (n:=n) (k:=k) (S1:=S1) (S2:=S2) (fun f w h=>h) (fun c a w h=>h) h2 (fun i o ho=>List.all_eq_true.1 h1 o (by
    have:l[i]? = some o:=by simpa using ho
    exact List.mem_of_getElem? this)) ord (Array.replicate l.length false) f _ (by simpa using hk) h4 (by rw [hf]; exact ⟨fun _=>hS.1,hS.2⟩) (by rw [hf]; exact hR)
  rw [h3] at this
  simpa using this
variable {Q : (Nat → Value) → World → Prop} {rest r2 : OX} {f : Nat → Value} {w : World} {i j : Nat} {o o2 : Oper} {ph : Bool}
theorem RX.nil_ (h:Q f w):RX P ops S1 S2 k Q .nil ph f w:=h
theorem RX.y {v:Value} (ho:ops[i]? = some o) (hg:wantF f ops o=true) (hy:Y P S2 f o v) (h:RX P ops S1 S2 k Q rest ph (upo f o.dst v) w):RX P ops S1 S2 k Q (.q i rest) ph f w:=by
  unfold RX lookX; rw [ho]; exact ⟨v,.inl ⟨hg,hy⟩,h⟩
theorem RX.e {v:Value} (ho:ops[i]? = some o) (hg:wantF f ops o=true) (hy:Y P (fun w=>S1 w∧S2 w) f o v) (h:RX P ops S1 S2 k Q rest ph (upo f o.dst v) w):RX P ops S1 S2 k Q (.e i rest) ph f w:=by
  unfold RX lookX; rw [ho]; exact ⟨v,.inl ⟨hg,hy⟩,h⟩
theorem RX.skip (ho:ops[i]? = some o) (hg:wantF f ops o=false) (h:RX P ops S1 S2 k Q rest ph (upo f o.dst undef) w):RX P ops S1 S2 k Q (.q i rest) ph f w:=by
  unfold RX lookX; rw [ho]; exact ⟨undef,.inr ⟨hg,rfl⟩,h⟩
/-- An operation that acts, ahead of operation k; operation k itself; one behind it. -/
theorem RX.act (ho:ops[i]? = some o) (hk:(i==k)=false) (h:RL P ops (fun f' w'=>(S1 w'∧S2 w')∧RX P ops S1 S2 k Q rest false f' w') [o] f w):RX P ops S1 S2 k Q (.a i rest) false f w:=by
  show ActAt P ops (fun f' w'=>PhB S1 S2 (false||i==k) w'∧RX P ops S1 S2 k Q rest (false||i==k) f' w') i f w
  rw [hk]
  have e:(fun f' w'=>PhB S1 S2 (false||false) w'∧RX P ops S1 S2 k Q rest (false||false) f' w')=fun f' w'=>(S1 w'∧S2 w')∧RX P ops S1 S2 k Q rest false f' w':=by
    funext f' w'
    simp [PhB]
  rw [e]
  exact ActAt.of ho h
theorem RX.actk (ho:ops[i]? = some o) (hk:(i==k)=true) (h:RL P ops (fun f' w'=>S2 w'∧RX P ops S1 S2 k Q rest true f' w') [o] f w):RX P ops S1 S2 k Q (.a i rest) false f w:=by
  show ActAt P ops (fun f' w'=>PhB S1 S2 (false||i==k) w'∧RX P ops S1 S2 k Q rest (false||i==k) f' w') i f w
  rw [hk]
  have e:(fun f' w'=>PhB S1 S2 (false||true) w'∧RX P ops S1 S2 k Q rest (false||true) f' w')=fun f' w'=>S2 w'∧RX P ops S1 S2 k Q rest true f' w':=by
    funext f' w'
    simp [PhB]
  rw [e]
  exact ActAt.of ho h
end
end
section
open Go.RowKit
set_option maxRecDepth 100000
def m_impl_ReadDecimal (d0:ByteArray):Option (Int × Bool):=
  ((parseM d0 10 64).bind fun y1=>(bif y1.2 then some (0,false) else ((m_impl_isInt y1.1).bind fun y8=>(bif y8 then ((m_impl_Decimal y1.1).bind fun y13=>(bif (y13.toList==d0.toList) then some (y1.1,true) else some (0,false))) else some (0,false)))))
set_option maxHeartbeats 2000000 in
theorem c_m_impl_ReadDecimal (d0:ByteArray) (r:Int × Bool) (hm:m_impl_ReadDecimal d0=some r)  (w:World) (hW:WR w)  :
    Calls Tryz.prog 48 #[.string d0] w fun e w'=>e=.returned (.tuple #[.int .i64 r.1,.bool r.2])∧Below w.heap.size w w':=by
  have T:=Below.refl w.heap.size w
  unfold m_impl_ReadDecimal at hm
  refine enter 25 Tryz.func48 rfl rfl rfl ?_
  intro f hf
  have s0:f 0=.string d0:=hf 0 _ rfl
  refine wp_seq<|wp_rs rfl<|RQ.y rfl (Y.assign (v:=.int .i64 0) rfl)<|RQ.y rfl (Y.assign (v:=.bool false) rfl)<|RQ.nil<|then_n<|wp_seq<|wp_rl rfl<|RL.y rfl (Y.move (v:=.string d0) s0) ?_
  obtain ⟨y1,e2,hm⟩:=bnd hm
  refine RL.call rfl (am3 rfl rfl rfl) (by kernel_rfl) ((c_parseM d0 10 64 _ e2 _ (WR.below hW T) ).mono ?_)
  rintro _ w3 ⟨⟨ev5,rfl,hev6⟩,hb4⟩
  refine ⟨_,rfl,?_⟩
  have szw3:=hb4.size
  have T:=Tt T hb4
  refine RL.y rfl (Y.move (v:=.tuple #[.int .i64 y1.1,ev5]) rfl)<|RL.y rfl (Y.extract (i:=0) rfl rfl)<|RL.y rfl (Y.extract (i:=1) rfl rfl)<|RL.y rfl (Y.assign (v:=.int .i64 y1.1) rfl)<|RL.y rfl (Y.assign (v:=ev5) rfl)<|RL.nil<|then_n<|wp_seq<|wp_seq<|wp_rb rfl<|RQ.y rfl (Y.move (v:=ev5) rfl)<|RQ.y rfl (Y.neNilI rfl rfl (by kernel_rfl) hev6)<|RQ.y rfl (Y.move (v:=.bool y1.2) rfl) ?_
  rcases bcases y1.2 with c7|c7
  ·replace hm:=cF c7 hm
   refine RQ.y (wantT (dj:=13) rfl (vb rfl c7)) (Y.move (v:=.int .i64 y1.1) rfl) ?_
   obtain ⟨y8,e9,hm⟩:=bnd hm
   refine RQ.call (wantT (dj:=13) rfl (vb rfl c7)) (am1 rfl) (by kernel_rfl) (v:=.bool y8) (bel (K:=fun _=>True) fun w' hb'=>(c_m_impl_isInt y1.1 _ e9  w' ))<|RQ.y (wantT (dj:=13) rfl (vb rfl c7)) (Y.not (b':=(!y8)) rfl rfl)<|RQ.y rfl (Y.pick (b:=false) (v:=.bool (!y8)) (vb rfl c7) rfl)<|RQ.y rfl (Y.move (v:=.bool (!y8)) rfl) ?_
   rcases bcases y8 with c10|c10
   ·replace hm:=cF c10 hm
    iterate 4 refine RQ.skip (wantN (dj:=18) rfl (vbn rfl c10 rfl) rfl) ?_
    refine RQ.y rfl (Y.pick (b:=true) (v:=.bool true) (vbn rfl c10 rfl) rfl)<|RQ.nil ?_
    intro w11 hb12
    have szw11:=hb12.size
    have T:=Tt T hb12
    refine then_n<|cond_t rfl rfl<|wp_seq<|wp_rs rfl<|RQ.y rfl (Y.assign (v:=.int .i64 0) rfl)<|RQ.y rfl (Y.assign (v:=.bool false) rfl)<|RQ.nil<|then_n<|wp_ret ?_
    obtain rfl:=sj hm
    exact (then_r (ret2 rfl rfl rfl rfl ⟨rfl,T⟩))
   replace hm:=cT c10 hm
   refine RQ.y (wantT (dj:=18) rfl (vbn rfl c10 rfl)) (Y.move (v:=.int .i64 y1.1) rfl) ?_
   obtain ⟨y13,e14,hm⟩:=bnd hm
   refine RQ.call (wantT (dj:=18) rfl (vbn rfl c10 rfl)) (am1 rfl) (by kernel_rfl) (v:=.string y13) (bel (K:=fun _=>True) fun w' hb'=>(c_m_impl_Decimal y1.1 _ e14  w' (WR.below hW (Tt T hb')).toWD ))<|RQ.y (wantT (dj:=18) rfl (vbn rfl c10 rfl)) (Y.move (v:=.string d0) s0)<|RQ.y (wantT (dj:=18) rfl (vbn rfl c10 rfl)) (Y.neStr rfl rfl (by kernel_rfl))<|RQ.y rfl (Y.pick (b:=false) (v:=.bool (!(y13.toList==d0.toList))) (vbn rfl c10 rfl) rfl)<|RQ.nil ?_
   intro w15 hb16
   have szw15:=hb16.size
   have T:=Tt T hb16
   refine then_n ?_
   rcases bcases (y13.toList==d0.toList) with c17|c17
   ·replace hm:=cF c17 hm
    refine cond_t rfl (vbn rfl c17 rfl)<|wp_seq<|wp_rs rfl<|RQ.y rfl (Y.assign (v:=.int .i64 0) rfl)<|RQ.y rfl (Y.assign (v:=.bool false) rfl)<|RQ.nil<|then_n<|wp_ret ?_
    obtain rfl:=sj hm
    exact (then_r (ret2 rfl rfl rfl rfl ⟨rfl,T⟩))
   replace hm:=cT c17 hm
   refine cond_f rfl (vbn rfl c17 rfl)<|wp_skip<|then_n<|wp_seq<|wp_rs rfl<|RQ.y rfl (Y.move (v:=.int .i64 y1.1) rfl)<|RQ.y rfl (Y.assign (v:=.int .i64 y1.1) rfl)<|RQ.y rfl (Y.assign (v:=.bool true) rfl)<|RQ.nil<|then_n<|wp_ret ?_
   obtain rfl:=sj hm
   exact (ret2 rfl rfl rfl rfl ⟨rfl,T⟩)
  replace hm:=cT c7 hm
  iterate 3 refine RQ.skip (wantN (dj:=13) rfl (vb rfl c7) rfl) ?_
  refine RQ.y rfl (Y.pick (b:=true) (v:=.bool true) (vb rfl c7) rfl)<|RQ.y rfl (Y.move (v:=.bool true) rfl) ?_
  iterate 4 refine RQ.skip (wantN (dj:=18) rfl rfl rfl) ?_
  refine RQ.y rfl (Y.pick (b:=true) (v:=.bool true) rfl rfl)<|RQ.nil ?_
  intro w18 hb19
  have szw18:=hb19.size
  have T:=Tt T hb19
  refine then_n<|cond_t rfl rfl<|wp_seq<|wp_rs rfl<|RQ.y rfl (Y.assign (v:=.int .i64 0) rfl)<|RQ.y rfl (Y.assign (v:=.bool false) rfl)<|RQ.nil<|then_n<|wp_ret ?_
  obtain rfl:=sj hm
  exact (then_r (ret2 rfl rfl rfl rfl ⟨rfl,T⟩))
def m_impl_OperatorOf_A1:Option Int:=
  some 0
def m_impl_OperatorOf_B1 (d0:ByteArray) (rec1:Int→Option Int) (K1:Option Int) (i2:Int):Option Int:=
  (bif (decide (i2≤6)) then ((m_impl_OperatorText i2).bind fun y5=>(bif (y5.toList==d0.toList) then some i2 else ((ck (i2+1)).bind fun s10=>(rec1 s10)))) else (K1))
def m_impl_OperatorOf_L1 (d0:ByteArray) (K1:Option Int):Nat→Int→Option Int
  |0,_=>none
  |g+1,i2=>m_impl_OperatorOf_B1 d0 (m_impl_OperatorOf_L1 d0 K1 g) K1 i2
def m_impl_OperatorOf (d0:ByteArray):Option Int:=
  (m_impl_OperatorOf_L1 d0 m_impl_OperatorOf_A1 (8) 1)
set_option maxHeartbeats 2000000 in
theorem c_m_impl_OperatorOf (d0:ByteArray) (r:Int) (hm:m_impl_OperatorOf d0=some r)  (w:World)  :
    Calls Tryz.prog 88 #[.string d0] w fun e w'=>e=.returned (.int .i64 r)∧Below w.heap.size w w':=by
  have T:=Below.refl w.heap.size w
  unfold m_impl_OperatorOf at hm
  refine enter 13 Tryz.func88 rfl rfl rfl ?_
  intro f hf
  have s0:f 0=.string d0:=hf 0 _ rfl
  refine wp_seq<|wp_rs rfl<|RQ.y rfl (Y.assign (v:=.int .i64 0) rfl)<|RQ.nil<|then_n<|wp_seq<|wp_seq<|wp_rs rfl<|RQ.y rfl (Y.assign (v:=.int .i64 1) rfl)<|RQ.nil<|then_n<|wp_block ?_
  obtain ⟨K1,hK1,hm⟩ :∃K,K=m_impl_OperatorOf_A1∧m_impl_OperatorOf_L1 d0 K (8) 1=some r:=⟨_,rfl,hm⟩
  refine wp_loopX (fun g f w'=>∃(i2:Int),f 0=.string d0∧f 3=.int .i64 i2∧0≤i2∧Below w.heap.size w w'∧m_impl_OperatorOf_L1 d0 K1 g i2=some r) 0 (fun f w'=>Below w.heap.size w w'∧m_impl_OperatorOf_A1  = some r) (8) ⟨1,s0,rfl,(by omega),T,hm⟩ ?_ ?_
  ·rintro f w1 ⟨T,hm⟩
   unfold m_impl_OperatorOf_A1 at hm
   refine blk_hit (then_n ?_)
   refine wp_seq<|wp_rs rfl<|RQ.y rfl (Y.assign (v:=.int .i64 0) rfl)<|RQ.nil<|then_n<|wp_ret ?_
   obtain rfl:=sj hm
   exact (ret1 rfl rfl rfl ⟨rfl,T⟩)
  rintro g f w3 ⟨i2,s0_1,s3_1,nn3_1,T,hm⟩
  rcases g with _|g
  ·simp only [m_impl_OperatorOf_L1] at hm; cases hm
  obtain ⟨rec1,hrec1,hm⟩ :∃z,z=m_impl_OperatorOf_L1 d0 K1 g∧m_impl_OperatorOf_B1 d0 z K1 i2=some r:=⟨_,rfl,hm⟩
  unfold m_impl_OperatorOf_B1 at hm
  refine wp_seq<|wp_seq<|wp_rs rfl<|RQ.y rfl (Y.move (v:=.int .i64 i2) s3_1)<|RQ.y rfl (Y.binI (v:=.bool (decide (i2≤6))) rfl rfl rfl)<|RQ.nil<|then_n ?_
  rcases bcases (decide (i2≤6)) with c4|c4
  ·replace hm:=cF c4 hm
   have pc4:=of_decide_eq_false c4
   refine cond_f rfl (vb rfl c4)<|wp_exit ?_
   exact (then_x (then_x (hit_x ⟨_,rfl,⟨T,(by rw [hK1] at hm; exact hm)⟩⟩)))
  replace hm:=cT c4 hm
  have pc4:=of_decide_eq_true c4
  refine cond_t rfl (vb rfl c4)<|wp_skip<|then_n<|wp_seq<|wp_block<|wp_seq<|wp_rb rfl<|RQ.y rfl (Y.move (v:=.int .i64 i2) s3_1) ?_
  obtain ⟨y5,e6,hm⟩:=bnd hm
  refine RQ.call rfl (am1 rfl) (by kernel_rfl) (v:=.string y5) (bel (K:=fun _=>True) fun w' hb'=>(c_m_impl_OperatorText i2 _ e6  w' ))<|RQ.y rfl (Y.move (v:=.string d0) s0_1)<|RQ.y rfl (Y.eqStr rfl rfl (by kernel_rfl))<|RQ.nil ?_
  intro w7 hb8
  have szw7:=hb8.size
  have T:=Tt T hb8
  refine then_n ?_
  rcases bcases (y5.toList==d0.toList) with c9|c9
  ·replace hm:=cF c9 hm
   refine cond_f rfl (vb rfl c9)<|wp_skip ?_
   refine blk_n (then_n ?_)
   refine wp_rs rfl<|RQ.y rfl (Y.move (v:=.int .i64 i2) s3_1) ?_
   obtain ⟨s10,ks10,hm⟩:=bnd hm
   replace ks10:=ck_some ks10
   refine RQ.y rfl (Y.binI (v:=.int .i64 s10) rfl rfl (by rw [binI_add ks10.2,ks10.1]))<|RQ.y rfl (Y.assign (v:=.int .i64 s10) rfl)<|RQ.nil ?_
   exact (then_n ⟨g,_,Nat.lt_succ_self _,rfl,⟨s10,s0_1,rfl,(by omega),T,(by rw [← hrec1]; exact hm)⟩⟩)
  replace hm:=cT c9 hm
  refine cond_t rfl (vb rfl c9)<|wp_seq<|wp_rs rfl<|RQ.y rfl (Y.move (v:=.int .i64 i2) s3_1)<|RQ.y rfl (Y.assign (v:=.int .i64 i2) rfl)<|RQ.nil<|then_n<|wp_ret ?_
  obtain rfl:=sj hm
  exact (blk_r (then_r (then_r (hit_r (blk_r (then_r (ret1 rfl rfl rfl ⟨rfl,T⟩)))))))
def m_impl_readNumbers_A1 (xs10:List Int):Option ((List Int) × Bool):=
  some (xs10,true)
def m_impl_readNumbers_B1 (y1:List ByteArray) (rec1:List Int→Int→Option ((List Int) × Bool)) (K1:List Int→Option ((List Int) × Bool)) (xs12:List Int) (i13:Int):Option ((List Int) × Bool):=
  (bif (decide (i13 < (y1.length:Int))) then ((getI y1 i13).bind fun x16=>((m_impl_ReadDecimal x16).bind fun y22=>(bif y22.2 then ((mustP (xs12.length+([y22.1]).length≤4294967296)).bind fun _=>(rec1 (xs12 ++ [y22.1]) (i13+1))) else some ([],false)))) else (K1 xs12))
def m_impl_readNumbers_L1 (y1:List ByteArray) (K1:List Int→Option ((List Int) × Bool)):Nat→List Int→Int→Option ((List Int) × Bool)
  |0,_,_=>none
  |g+1,xs12,i13=>m_impl_readNumbers_B1 y1 (m_impl_readNumbers_L1 y1 K1 g) K1 xs12 i13
def m_impl_readNumbers (d0:ByteArray) (d1:ByteArray):Option ((List Int) × Bool):=
  ((splitM d0 d1).bind fun y1=>(m_impl_readNumbers_L1 y1 m_impl_readNumbers_A1 (y1.length+1) ([]) 0))
set_option maxHeartbeats 2000000 in
theorem c_m_impl_readNumbers (d0:ByteArray) (d1:ByteArray) (r:(List Int) × Bool) (hm:m_impl_readNumbers d0 d1=some r)  (w:World) (hW:WR w)  :
    Calls Tryz.prog 50 #[.string d0,.string d1] w fun e w'=>(∃(v0:Value),e=.returned (.tuple #[v0,.bool r.2])∧OwF 2 encI 1 w' w.heap.size v0 r.1)∧Below w.heap.size w w':=by
  have T:=Below.refl w.heap.size w
  unfold m_impl_readNumbers at hm
  refine enter 32 Tryz.func50 rfl rfl rfl ?_
  intro f hf
  have s0:f 0=.string d0:=hf 0 _ rfl
  have s1:f 1=.string d1:=hf 1 _ rfl
  refine wp_seq<|wp_rs rfl<|RQ.y rfl (Y.assign (v:=.slice none 0 0) rfl)<|RQ.y rfl (Y.assign (v:=.bool false) rfl)<|RQ.nil<|then_n<|wp_seq<|wp_rs rfl<|RQ.y rfl (Y.assign (v:=.slice none 0 0) rfl)<|RQ.nil<|then_n<|wp_seq<|wp_seq<|wp_rl rfl<|RL.y rfl (Y.move (v:=.string d0) s0)<|RL.y rfl (Y.move (v:=.string d1) s1) ?_
  obtain ⟨y1,e2,hm⟩:=bnd hm
  refine RL.call rfl (am2 rfl rfl) (by kernel_rfl) ((c_splitM d0 d1 _ e2  _ (WR.below hW T).toWD ).mono ?_)
  rintro _ w6 ⟨⟨v3,rfl,G4⟩,hb7⟩
  refine ⟨_,rfl,?_⟩
  have szw6:=hb7.size
  have T0w6:=T.size
  have T:=Tt T hb7
  replace G4:=OwF.mono G4 T0w6
  obtain ⟨A8,c9,rfl⟩:=OwF.form G4
  have qbA8:=OwF.bound G4
  refine RL.y rfl (Y.len (by kernel_rfl) rfl)<|RL.y rfl (Y.move (v:=.int .i64 0) rfl)<|RL.nil<|then_n<|wp_block ?_
  obtain ⟨K1,hK1,hm⟩ :∃K,K=m_impl_readNumbers_A1∧m_impl_readNumbers_L1 y1 K (y1.length+1) ([]) 0=some r:=⟨_,rfl,hm⟩
  refine wp_loopX (fun g f w'=>∃(xs12:List Int) (i13:Int) (uxs12:Value),f 13=.slice A8 y1.length c9∧f 14=.int .i64 (y1.length:Int)∧f 6=uxs12∧OwF 2 encI 1 w' w.heap.size uxs12 xs12∧f 15=.int .i64 i13∧0≤i13∧Dj uxs12 (.slice A8 y1.length c9)∧OwF 9 encS 1 w' w.heap.size (.slice A8 y1.length c9) y1∧Below w.heap.size w w'∧m_impl_readNumbers_L1 y1 K1 g xs12 i13=some r) 0 (fun f w'=>∃(xs10:List Int) (uxs10:Value),f 6=uxs10∧OwF 2 encI 1 w' w.heap.size uxs10 xs10∧Below w.heap.size w w'∧m_impl_readNumbers_A1 xs10=some r) (y1.length+1) ⟨([]),0,(.slice none 0 0),rfl,rfl,rfl,OwF.nil,rfl,(by omega),Dj.nil,G4,T,hm⟩ ?_ ?_
  ·rintro f w11 ⟨xs10,uxs10,s6_1x,Guxs10,T,hm⟩
   unfold m_impl_readNumbers_A1 at hm
   refine blk_hit (then_n ?_)
   refine wp_seq<|wp_rs rfl<|RQ.y rfl (Y.move (v:=uxs10) s6_1x)<|RQ.y rfl (Y.assign (v:=uxs10) rfl)<|RQ.y rfl (Y.assign (v:=.bool true) rfl)<|RQ.nil<|then_n<|wp_ret ?_
   obtain rfl:=sj hm
   exact (ret2 rfl rfl rfl rfl ⟨⟨_,rfl,Guxs10⟩,T⟩)
  rintro g f w14 ⟨xs12,i13,uxs12,s13_1,s14_1,s6_1,Guxs12,s15_1,nn15_1,Doxs12_o5,G4,T,hm⟩
  rcases g with _|g
  ·simp only [m_impl_readNumbers_L1] at hm; cases hm
  obtain ⟨rec1,hrec1,hm⟩ :∃z,z=m_impl_readNumbers_L1 y1 K1 g∧m_impl_readNumbers_B1 y1 z K1 xs12 i13=some r:=⟨_,rfl,hm⟩
  unfold m_impl_readNumbers_B1 at hm
  refine wp_seq<|wp_rs rfl<|RQ.y rfl (Y.binI (v:=.bool (decide (i13 < (y1.length:Int)))) s15_1 s14_1 rfl)<|RQ.nil<|then_n<|wp_seq ?_
  rcases bcases (decide (i13 < (y1.length:Int))) with c15|c15
  ·replace hm:=cF c15 hm
   have pc15:=of_decide_eq_false c15
   refine cond_f rfl (vb rfl c15)<|wp_exit ?_
   exact (then_x (then_x (hit_x ⟨_,rfl,⟨xs12,(uxs12),s6_1,Guxs12,T,(by rw [hK1] at hm; exact hm)⟩⟩)))
  replace hm:=cT c15 hm
  have pc15:=of_decide_eq_true c15
  refine cond_t rfl (vb rfl c15)<|wp_skip<|then_n<|wp_seq<|wp_block<|wp_seq<|wp_rs rfl ?_
  obtain ⟨x16,hx18,hm⟩:=bnd hm
  obtain ⟨k17,hk19,hl20,hx18⟩:=getI_some hx18
  obtain ⟨b21,rfl⟩:=OwF.addr0 G4 (by omega)
  refine RQ.y rfl (Y.indexAddr (m:=k17) (sz:=1) s13_1 s15_1 hk19 hl20 (by kernel_rfl))<|RQ.y rfl (Y.load (v:=.string x16) rfl (by kernel_rfl) (eqC (OwF.cell fS G4 hx18 (j:=0) rfl)))<|RQ.y rfl (Y.assign (v:=.string x16) rfl)<|RQ.nil<|then_n<|wp_seq<|wp_rb rfl<|RQ.y rfl (Y.move (v:=.string x16) rfl) ?_
  obtain ⟨y22,e23,hm⟩:=bnd hm
  refine RQ.call rfl (am1 rfl) (by kernel_rfl) (v:=.tuple #[.int .i64 y22.1,.bool y22.2]) (bel (K:=fun _=>True) fun w' hb'=>(c_m_impl_ReadDecimal x16 _ e23  w' (WR.below hW (Tt T hb')) ))<|RQ.y rfl (Y.move (v:=.tuple #[.int .i64 y22.1,.bool y22.2]) rfl)<|RQ.y rfl (Y.extract (i:=0) rfl rfl)<|RQ.y rfl (Y.extract (i:=1) rfl rfl)<|RQ.y rfl (Y.assign (v:=.int .i64 y22.1) rfl)<|RQ.y rfl (Y.assign (v:=.bool y22.2) rfl)<|RQ.nil ?_
  intro w24 hb25
  have szw24:=hb25.size
  have G4:=OwF.below G4 hb25
  have Guxs12:=OwF.below Guxs12 hb25
  have T:=Tt T hb25
  refine then_n<|wp_seq<|wp_seq<|wp_rs rfl<|RQ.y rfl (Y.move (v:=.bool y22.2) rfl)<|RQ.y rfl (Y.not (b':=(!y22.2)) rfl rfl)<|RQ.nil<|then_n ?_
  rcases bcases y22.2 with c26|c26
  ·replace hm:=cF c26 hm
   refine cond_t rfl (vbn rfl c26 rfl)<|wp_seq<|wp_rs rfl<|RQ.y rfl (Y.assign (v:=.slice none 0 0) rfl)<|RQ.y rfl (Y.assign (v:=.bool false) rfl)<|RQ.nil<|then_n<|wp_ret ?_
   obtain rfl:=sj hm
   exact (then_r (blk_r (then_r (then_r (hit_r (blk_r (then_r (ret2 rfl rfl rfl rfl ⟨⟨_,rfl,OwF.nil⟩,T⟩))))))))
  replace hm:=cT c26 hm
  refine cond_f rfl (vbn rfl c26 rfl)<|wp_skip<|then_n<|wp_rl rfl<|RL.y rfl (Y.move (v:=uxs12) s6_1)<|RL.y rfl (Y.move (v:=.int .i64 y22.1) rfl) ?_
  refine RL.bslice (e:=2) (cells:=#[.int .i64 y22.1]) rfl (pm1 rfl) (by kernel_rfl) (fun w27 B28 hb29 szw27=>?_)
  have ZB28:w.heap.size≤w24.heap.size:=T.size
  have Do30_o5:=Dj.new (v:=.slice (some ⟨w24.heap.size,0,none⟩) 1 1) litGe (OwF.hi G4)
  have Do30_oxs12:=Dj.new (v:=.slice (some ⟨w24.heap.size,0,none⟩) 1 1) litGe (OwF.hi Guxs12)
  have G4:=OwF.below G4 hb29
  have Guxs12:=OwF.below Guxs12 hb29
  have T:=Tt T hb29
  have G31:=OwF.lit (enc:=encI) (sz:=1) (xs:=[y22.1]) B28 ZB28 rfl rfl rfl rfl
  obtain ⟨_,m33,hm⟩:=bnd hm
  have hk34:=mustP_some m33
  refine RL.append fI app_int64 rfl rfl rfl Guxs12 (OwF.arg fI G31) T.size hk34 (fun v35 w36 G37 hgr38 hbl39 hnb40=>?_)
  have szw36:=hbl39.size
  have Do41_o5:=Dj.app Doxs12_o5 hnb40 (OwF.hi G4)
  have G4:=OwF.keptD G4 hgr38 (Dj.symm Doxs12_o5)
  have T:=T.trans hbl39
  refine RL.y rfl (Y.assign (v:=v35) rfl)<|RL.nil ?_
  refine blk_n (then_n ?_)
  refine wp_rs rfl<|RQ.y rfl (Y.binI s15_1 rfl (binI_add (m:=i13) (by omega)))<|RQ.y rfl (Y.move (v:=.int .i64 (i13+1)) rfl)<|RQ.nil ?_
  exact (then_n ⟨g,_,Nat.lt_succ_self _,rfl,⟨(xs12 ++ [y22.1]),(i13+1),(v35),s13_1,s14_1,rfl,G37,rfl,(by omega),(Ap.dj (Dj.ap Do41_o5)),G4,T,(by rw [← hrec1]; exact hm)⟩⟩)
def m_impl_readContents_Aj2 (d0:DAgent) (d1:ByteArray) (b4:Bool):Option (Bool × DAgent):=
  (bif b4 then ((cutM d1 (ByteArray.mk #[44])).bind fun y19=>((m_impl_OperatorOf y19.1).bind fun y23=>(bif y19.2.2 then ((m_impl_readNumbers y19.2.1 (ByteArray.mk #[44])).bind fun y31=>some (y31.2,(⟨d0.kind,d0.level,y23,y31.1,[]⟩:DAgent))) else some (true,(⟨d0.kind,d0.level,y23,[],[]⟩:DAgent))))) else ((m_impl_readNumbers d1 (ByteArray.mk #[44])).bind fun y7=>some (y7.2,(⟨d0.kind,d0.level,d0.value,y7.1,[]⟩:DAgent))))
def m_impl_readContents_Aj1 (d0:DAgent) (d1:ByteArray) (b1:Bool):Option (Bool × DAgent):=
  (bif b1 then ((m_impl_ReadDecimal d1).bind fun y44=>some (y44.2,(⟨d0.kind,d0.level,y44.1,[],[]⟩:DAgent))) else (bif (d0.kind==7) then (m_impl_readContents_Aj2 d0 d1 (d0.kind==7)) else (m_impl_readContents_Aj2 d0 d1 (d0.kind==8))))
def m_impl_readContents (d0:DAgent) (d1:ByteArray):Option (Bool × DAgent):=
  (bif (d0.kind==6) then (m_impl_readContents_Aj1 d0 d1 (d0.kind==6)) else (bif (d0.kind==9) then (m_impl_readContents_Aj1 d0 d1 (d0.kind==9)) else (m_impl_readContents_Aj1 d0 d1 (d0.kind==12))))
set_option maxHeartbeats 2000000 in
theorem c_m_impl_readContents (d0:DAgent) (d1:ByteArray) (r:Bool × DAgent) (hm:m_impl_readContents d0 d1=some r)  (w ws:World) (hT0:Below w.heap.size w ws) (hW:WR w)  (pc0:Nat) (hv0:Blk ws pc0 49 #[.int .i64 d0.kind,.int .i64 d0.level,.int .i64 d0.value,.slice none 0 0,.slice none 0 0]) (hl0:w.heap.size≤pc0) :
    Calls Tryz.prog 49 #[.pointer (some ⟨pc0,0,none⟩),.string d1] ws fun e w'=>(∃(u0:Value) (u1:Value),e=.returned (.bool r.1)∧OwF 2 encI 1 w' ws.heap.size u0 r.2.data∧OwF 61 encPort 2 w' ws.heap.size u1 r.2.ports∧Dj u0 u1∧Blk w' pc0 49 #[.int .i64 r.2.kind,.int .i64 r.2.level,.int .i64 r.2.value,u0,u1])∧KeepV (.slice (some ⟨pc0,0,none⟩) 1 1) (.slice (some ⟨pc0,0,none⟩) 1 1) ws w'∧Below w.heap.size w w':=by
  have T:=hT0
  have LW:=hT0.size
  have K:=KeepV.refl (.slice (some ⟨pc0,0,none⟩) 1 1) (.slice (some ⟨pc0,0,none⟩) 1 1) ws
  unfold m_impl_readContents at hm
  refine enter 57 Tryz.func49 rfl rfl rfl ?_
  intro f hf
  have s0:f 0=.pointer (some ⟨pc0,0,none⟩):=hf 0 _ rfl
  have s1:f 1=.string d1:=hf 1 _ rfl
  refine wp_seq<|wp_rs rfl<|RQ.y rfl (Y.assign (v:=.bool false) rfl)<|RQ.nil<|then_n<|wp_seq<|wp_seq<|wp_rs rfl<|RQ.y rfl (Y.move (v:=.pointer (some ⟨pc0,0,none⟩)) s0)<|RQ.y rfl (Y.nilCheck rfl)<|RQ.y rfl (Y.fieldAddr (off:=0) rfl (by kernel_rfl))<|RQ.y rfl (Y.load (v:=.int .i64 d0.kind) rfl (by kernel_rfl) (eqC (blkCell hv0 (i:=0) rfl)))<|RQ.nil<|then_n<|wp_block<|cutRest (K:=(fun f w'=>∃(b1:Bool),f 0=.pointer (some ⟨pc0,0,none⟩)∧f 1=.string d1∧f 15=.int .i64 d0.kind∧f 16=.bool b1∧Blk w' pc0 49 #[.int .i64 d0.kind,.int .i64 d0.level,.int .i64 d0.value,.slice none 0 0,.slice none 0 0]∧KeepV (.slice (some ⟨pc0,0,none⟩) 1 1) (.slice (some ⟨pc0,0,none⟩) 1 1) ws w'∧Below w.heap.size w w'∧m_impl_readContents_Aj1 d0 d1 b1=some r)) ?_ ?_
  ·rintro f w2 ⟨b1,s0_j1x,s1_j1x,s15_j1x,s16_j1x,hv0,K,T,hm⟩
   unfold m_impl_readContents_Aj1 at hm
   rcases bcases b1 with c3|c3
   ·replace hm:=cF c3 hm
    refine cond_f rfl (vb s16_j1x c3)<|cutRest (K:=(fun f w'=>∃(b4:Bool),f 0=.pointer (some ⟨pc0,0,none⟩)∧f 1=.string d1∧f 30=.bool b4∧Blk w' pc0 49 #[.int .i64 d0.kind,.int .i64 d0.level,.int .i64 d0.value,.slice none 0 0,.slice none 0 0]∧KeepV (.slice (some ⟨pc0,0,none⟩) 1 1) (.slice (some ⟨pc0,0,none⟩) 1 1) ws w'∧Below w.heap.size w w'∧m_impl_readContents_Aj2 d0 d1 b4=some r)) ?_ ?_
    ·rintro f w5 ⟨b4,s0_j2x,s1_j2x,s30_j2x,hv0,K,T,hm⟩
     unfold m_impl_readContents_Aj2 at hm
     rcases bcases b4 with c6|c6
     ·replace hm:=cF c6 hm
      refine cond_f rfl (vb s30_j2x c6)<|wp_skip ?_
      refine blk_n (then_n ?_)
      refine wp_seq<|wp_rl rfl<|RL.y rfl (Y.move (v:=.string d1) s1_j2x) ?_
      obtain ⟨y7,e8,hm⟩:=bnd hm
      refine RL.call rfl (am2 rfl rfl) (by kernel_rfl) ((c_m_impl_readNumbers d1 (ByteArray.mk #[44]) _ e8  _ (WR.below hW T) ).mono ?_)
      rintro _ w12 ⟨⟨v9,rfl,G10⟩,hb13⟩
      refine ⟨_,rfl,?_⟩
      have szw12:=hb13.size
      have T0w12:=K.size
      have Zo11_obp0:=ap_ne (Ap.new (OwF.flo G10) (one_hi hv0.lt))
      have hv0:=blkT hv0 hb13
      have K:=KeepV.below K hb13
      have T:=Tt T hb13
      replace G10:=OwF.mono G10 T0w12
      refine RL.y rfl (Y.move (v:=.tuple #[v9,.bool y7.2]) rfl)<|RL.y rfl (Y.extract (i:=0) rfl rfl)<|RL.y rfl (Y.extract (i:=1) rfl rfl)<|RL.y rfl (Y.assign (v:=v9) rfl)<|RL.y rfl (Y.assign (v:=.bool y7.2) rfl)<|RL.nil<|then_n<|wp_seq<|wp_rl rfl<|RL.y rfl (Y.move (v:=.pointer (some ⟨pc0,0,none⟩)) s0_j2x)<|RL.y rfl (Y.move (v:=v9) rfl)<|RL.y rfl (Y.nilCheck rfl)<|RL.y rfl (Y.fieldAddr (off:=3) rfl (by kernel_rfl)) ?_
      obtain ⟨A14,c15,rfl⟩:=OwF.form G10
      have qbA14:=OwF.bound G10
      refine RL.store (v:=.slice A14 y7.1.length c15) (cs':=#[.int .i64 d0.kind,.int .i64 d0.level,.int .i64 d0.value,.slice A14 y7.1.length c15,.slice none 0 0]) rfl rfl rfl hv0 (by kernel_rfl) (by rfl) (by rfl) (by rfl) (fun w16 B17 ho18=>?_)
      have szw16:=ho18.size
      have G10:=OwF.only G10 ho18 Zo11_obp0
      have K:=KeepV.only1 K ho18 rfl
      have T:=T.trans (ho18.below (by first|(simp; done)|(simp; omega)))
      refine RL.nil<|then_n<|wp_seq<|wp_rs rfl<|RQ.y rfl (Y.move (v:=.bool y7.2) rfl)<|RQ.y rfl (Y.assign (v:=.bool y7.2) rfl)<|RQ.nil<|then_n<|wp_ret ?_
      obtain rfl:=sj hm
      exact (ret1 rfl rfl rfl ⟨⟨_,_,rfl,G10,OwF.nil,(Dj.symm Dj.nil),B17⟩,K,T⟩)
     replace hm:=cT c6 hm
     refine cond_t rfl (vb s30_j2x c6)<|wp_seq<|wp_rb rfl<|RQ.y rfl (Y.move (v:=.string d1) s1_j2x) ?_
     obtain ⟨y19,e20,hm⟩:=bnd hm
     refine RQ.call rfl (am2 rfl rfl) (by kernel_rfl) (v:=.tuple #[.string y19.1,.string y19.2.1,.bool y19.2.2]) (bel (K:=fun _=>True) fun w' hb'=>(c_cutM d1 (ByteArray.mk #[44]) _ e20  w' (WR.below hW (Tt T hb')).toWD ))<|RQ.y rfl (Y.move (v:=.tuple #[.string y19.1,.string y19.2.1,.bool y19.2.2]) rfl)<|RQ.y rfl (Y.extract (i:=0) rfl rfl)<|RQ.y rfl (Y.extract (i:=1) rfl rfl)<|RQ.y rfl (Y.extract (i:=2) rfl rfl)<|RQ.y rfl (Y.assign (v:=.string y19.1) rfl)<|RQ.y rfl (Y.assign (v:=.string y19.2.1) rfl)<|RQ.y rfl (Y.assign (v:=.bool y19.2.2) rfl)<|RQ.nil ?_
     intro w21 hb22
     have szw21:=hb22.size
     have hv0:=blkT hv0 hb22
     have K:=KeepV.below K hb22
     have T:=Tt T hb22
     refine then_n<|wp_seq<|wp_rl rfl<|RL.y rfl (Y.move (v:=.pointer (some ⟨pc0,0,none⟩)) s0_j2x)<|RL.y rfl (Y.move (v:=.string y19.1) rfl) ?_
     obtain ⟨y23,e24,hm⟩:=bnd hm
     refine RL.call rfl (am1 rfl) (by kernel_rfl) ((c_m_impl_OperatorOf y19.1 _ e24  _ ).mono ?_)
     rintro _ w25 ⟨rfl,hb26⟩
     refine ⟨_,rfl,?_⟩
     have szw25:=hb26.size
     have hv0:=blkT hv0 hb26
     have K:=KeepV.below K hb26
     have T:=Tt T hb26
     refine RL.y rfl (Y.nilCheck rfl)<|RL.y rfl (Y.fieldAddr (off:=2) rfl (by kernel_rfl)) ?_
     refine RL.store (v:=.int .i64 y23) (cs':=#[.int .i64 d0.kind,.int .i64 d0.level,.int .i64 y23,.slice none 0 0,.slice none 0 0]) rfl rfl rfl hv0 (by kernel_rfl) (by rfl) (by rfl) (by rfl) (fun w27 B28 ho29=>?_)
     have szw27:=ho29.size
     have K:=KeepV.only1 K ho29 rfl
     have T:=T.trans (ho29.below (by first|(simp; done)|(simp; omega)))
     refine RL.nil<|then_n<|wp_seq<|wp_seq<|wp_rs rfl<|RQ.y rfl (Y.move (v:=.bool y19.2.2) rfl)<|RQ.y rfl (Y.not (b':=(!y19.2.2)) rfl rfl)<|RQ.nil<|then_n ?_
     rcases bcases y19.2.2 with c30|c30
     ·replace hm:=cF c30 hm
      refine cond_t rfl (vbn rfl c30 rfl)<|wp_seq<|wp_rs rfl<|RQ.y rfl (Y.assign (v:=.bool true) rfl)<|RQ.nil<|then_n<|wp_ret ?_
      obtain rfl:=sj hm
      exact (then_r (blk_r (then_r (ret1 rfl rfl rfl ⟨⟨_,_,rfl,OwF.nil,OwF.nil,Dj.nil,B28⟩,K,T⟩))))
     replace hm:=cT c30 hm
     refine cond_f rfl (vbn rfl c30 rfl)<|wp_skip<|then_n<|wp_rs rfl<|RQ.y rfl (Y.move (v:=.string y19.2.1) rfl)<|RQ.y rfl (Y.assign (v:=.string y19.2.1) rfl)<|RQ.nil ?_
     refine blk_n (then_n ?_)
     refine wp_seq<|wp_rl rfl<|RL.y rfl (Y.move (v:=.string y19.2.1) rfl) ?_
     obtain ⟨y31,e32,hm⟩:=bnd hm
     refine RL.call rfl (am2 rfl rfl) (by kernel_rfl) ((c_m_impl_readNumbers y19.2.1 (ByteArray.mk #[44]) _ e32  _ (WR.below hW T) ).mono ?_)
     rintro _ w36 ⟨⟨v33,rfl,G34⟩,hb37⟩
     refine ⟨_,rfl,?_⟩
     have szw36:=hb37.size
     have T0w36:=K.size
     have Zo35_obp0:=ap_ne (Ap.new (OwF.flo G34) (one_hi B28.lt))
     have B28:=blkT B28 hb37
     have K:=KeepV.below K hb37
     have T:=Tt T hb37
     replace G34:=OwF.mono G34 T0w36
     refine RL.y rfl (Y.move (v:=.tuple #[v33,.bool y31.2]) rfl)<|RL.y rfl (Y.extract (i:=0) rfl rfl)<|RL.y rfl (Y.extract (i:=1) rfl rfl)<|RL.y rfl (Y.assign (v:=v33) rfl)<|RL.y rfl (Y.assign (v:=.bool y31.2) rfl)<|RL.nil<|then_n<|wp_seq<|wp_rl rfl<|RL.y rfl (Y.move (v:=.pointer (some ⟨pc0,0,none⟩)) s0_j2x)<|RL.y rfl (Y.move (v:=v33) rfl)<|RL.y rfl (Y.nilCheck rfl)<|RL.y rfl (Y.fieldAddr (off:=3) rfl (by kernel_rfl)) ?_
     obtain ⟨A38,c39,rfl⟩:=OwF.form G34
     have qbA38:=OwF.bound G34
     refine RL.store (v:=.slice A38 y31.1.length c39) (cs':=#[.int .i64 d0.kind,.int .i64 d0.level,.int .i64 y23,.slice A38 y31.1.length c39,.slice none 0 0]) rfl rfl rfl B28 (by kernel_rfl) (by rfl) (by rfl) (by rfl) (fun w40 B41 ho42=>?_)
     have szw40:=ho42.size
     have G34:=OwF.only G34 ho42 Zo35_obp0
     have K:=KeepV.only1 K ho42 rfl
     have T:=T.trans (ho42.below (by first|(simp; done)|(simp; omega)))
     refine RL.nil<|then_n<|wp_seq<|wp_rs rfl<|RQ.y rfl (Y.move (v:=.bool y31.2) rfl)<|RQ.y rfl (Y.assign (v:=.bool y31.2) rfl)<|RQ.nil<|then_n<|wp_ret ?_
     obtain rfl:=sj hm
     exact (ret1 rfl rfl rfl ⟨⟨_,_,rfl,G34,OwF.nil,(Dj.symm Dj.nil),B41⟩,K,T⟩)
    intro hJj2
    refine wp_seq<|wp_seq<|wp_rs rfl<|RQ.y rfl (Y.binI (v:=.bool (d0.kind==7)) s15_j1x rfl rfl)<|RQ.y rfl (Y.assign (v:=.bool (d0.kind==7)) rfl)<|RQ.nil<|then_n ?_
    rcases bcases (d0.kind==7) with c43|c43
    ·replace hm:=cF c43 hm
     refine cond_f rfl (vb rfl c43)<|wp_rs rfl<|RQ.y rfl (Y.binI (v:=.bool (d0.kind==8)) s15_j1x rfl rfl)<|RQ.y rfl (Y.assign (v:=.bool (d0.kind==8)) rfl)<|RQ.nil<|then_n ?_
     exact hJj2 _ _ ⟨(d0.kind==8),s0_j1x,s1_j1x,rfl,hv0,K,T,hm⟩
    replace hm:=cT c43 hm
    refine cond_t rfl (vb rfl c43)<|wp_skip<|then_n ?_
    exact hJj2 _ _ ⟨(d0.kind==7),s0_j1x,s1_j1x,rfl,hv0,K,T,hm⟩
   replace hm:=cT c3 hm
   refine cond_t rfl (vb s16_j1x c3)<|wp_seq<|wp_rb rfl<|RQ.y rfl (Y.move (v:=.string d1) s1_j1x) ?_
   obtain ⟨y44,e45,hm⟩:=bnd hm
   refine RQ.call rfl (am1 rfl) (by kernel_rfl) (v:=.tuple #[.int .i64 y44.1,.bool y44.2]) (bel (K:=fun _=>True) fun w' hb'=>(c_m_impl_ReadDecimal d1 _ e45  w' (WR.below hW (Tt T hb')) ))<|RQ.y rfl (Y.move (v:=.tuple #[.int .i64 y44.1,.bool y44.2]) rfl)<|RQ.y rfl (Y.extract (i:=0) rfl rfl)<|RQ.y rfl (Y.extract (i:=1) rfl rfl)<|RQ.y rfl (Y.assign (v:=.int .i64 y44.1) rfl)<|RQ.y rfl (Y.assign (v:=.bool y44.2) rfl)<|RQ.nil ?_
   intro w46 hb47
   have szw46:=hb47.size
   have hv0:=blkT hv0 hb47
   have K:=KeepV.below K hb47
   have T:=Tt T hb47
   refine then_n<|wp_seq<|wp_rl rfl<|RL.y rfl (Y.move (v:=.pointer (some ⟨pc0,0,none⟩)) s0_j1x)<|RL.y rfl (Y.move (v:=.int .i64 y44.1) rfl)<|RL.y rfl (Y.nilCheck rfl)<|RL.y rfl (Y.fieldAddr (off:=2) rfl (by kernel_rfl)) ?_
   refine RL.store (v:=.int .i64 y44.1) (cs':=#[.int .i64 d0.kind,.int .i64 d0.level,.int .i64 y44.1,.slice none 0 0,.slice none 0 0]) rfl rfl rfl hv0 (by kernel_rfl) (by rfl) (by rfl) (by rfl) (fun w48 B49 ho50=>?_)
   have szw48:=ho50.size
   have K:=KeepV.only1 K ho50 rfl
   have T:=T.trans (ho50.below (by first|(simp; done)|(simp; omega)))
   refine RL.nil<|then_n<|wp_seq<|wp_rs rfl<|RQ.y rfl (Y.move (v:=.bool y44.2) rfl)<|RQ.y rfl (Y.assign (v:=.bool y44.2) rfl)<|RQ.nil<|then_n<|wp_ret ?_
   obtain rfl:=sj hm
   exact (blk_r (then_r (ret1 rfl rfl rfl ⟨⟨_,_,rfl,OwF.nil,OwF.nil,Dj.nil,B49⟩,K,T⟩)))
  intro hJj1
  refine wp_seq<|wp_seq<|wp_rs rfl<|RQ.y rfl (Y.binI (v:=.bool (d0.kind==6)) rfl rfl rfl)<|RQ.y rfl (Y.assign (v:=.bool (d0.kind==6)) rfl)<|RQ.nil<|then_n ?_
  rcases bcases (d0.kind==6) with c51|c51
  ·replace hm:=cF c51 hm
   refine cond_f rfl (vb rfl c51)<|wp_seq<|wp_rs rfl<|RQ.y rfl (Y.binI (v:=.bool (d0.kind==9)) rfl rfl rfl)<|RQ.y rfl (Y.assign (v:=.bool (d0.kind==9)) rfl)<|RQ.nil<|then_n ?_
   rcases bcases (d0.kind==9) with c52|c52
   ·replace hm:=cF c52 hm
    refine cond_f rfl (vb rfl c52)<|wp_rs rfl<|RQ.y rfl (Y.binI (v:=.bool (d0.kind==12)) rfl rfl rfl)<|RQ.y rfl (Y.assign (v:=.bool (d0.kind==12)) rfl)<|RQ.nil<|then_n ?_
    exact hJj1 _ _ ⟨(d0.kind==12),s0,s1,rfl,rfl,hv0,K,T,hm⟩
   replace hm:=cT c52 hm
   refine cond_t rfl (vb rfl c52)<|wp_skip<|then_n ?_
   exact hJj1 _ _ ⟨(d0.kind==9),s0,s1,rfl,rfl,hv0,K,T,hm⟩
  replace hm:=cT c51 hm
  refine cond_t rfl (vb rfl c51)<|wp_skip<|then_n ?_
  exact hJj1 _ _ ⟨(d0.kind==6),s0,s1,rfl,rfl,hv0,K,T,hm⟩
def m_impl_readAgent_A1 (z43:DAgent) (z44:DAgent):Option (DAgent × Bool):=
  some (z44,true)
def m_impl_readAgent_B1 (y5:List ByteArray) (rec1:Int→DAgent→DAgent→Option (DAgent × Bool)) (K1:DAgent→DAgent→Option (DAgent × Bool)) (i53:Int) (z54:DAgent) (z55:DAgent):Option (DAgent × Bool):=
  (bif (decide (i53 < (((y5.length - 1):Nat):Int))) then ((getI (y5.drop 1) i53).bind fun x60=>((m_impl_readNumbers x60 (ByteArray.mk #[46])).bind fun y70=>(bif y70.2 then (bif ((y70.1.length:Int) != 2) then some ((⟨0,0,0,[],[]⟩:DAgent),false) else ((getI y70.1 0).bind fun x86=>((getI y70.1 1).bind fun x92=>((mustP (z55.ports.length+([(⟨x86,x92⟩:DPort)]).length≤4294967296)).bind fun _=>(rec1 (i53+1) z54 (⟨z55.kind,z55.level,z55.value,z55.data,(z55.ports ++ [(⟨x86,x92⟩:DPort)])⟩:DAgent)))))) else some ((⟨0,0,0,[],[]⟩:DAgent),false)))) else (K1 z54 z55))
def m_impl_readAgent_L1 (y5:List ByteArray) (K1:DAgent→DAgent→Option (DAgent × Bool)):Nat→Int→DAgent→DAgent→Option (DAgent × Bool)
  |0,_,_,_=>none
  |g+1,i53,z54,z55=>m_impl_readAgent_B1 y5 (m_impl_readAgent_L1 y5 K1 g) K1 i53 z54 z55
def m_impl_readAgent_A2 (z141:DAgent) (z142:DAgent):Option (DAgent × Bool):=
  some (z142,true)
def m_impl_readAgent_B2 (y5:List ByteArray) (rec2:Int→DAgent→DAgent→Option (DAgent × Bool)) (K2:DAgent→DAgent→Option (DAgent × Bool)) (i151:Int) (z152:DAgent) (z153:DAgent):Option (DAgent × Bool):=
  (bif (decide (i151 < (((y5.length - 1):Nat):Int))) then ((getI (y5.drop 1) i151).bind fun x158=>((m_impl_readNumbers x158 (ByteArray.mk #[46])).bind fun y168=>(bif y168.2 then (bif ((y168.1.length:Int) != 2) then some ((⟨0,0,0,[],[]⟩:DAgent),false) else ((getI y168.1 0).bind fun x184=>((getI y168.1 1).bind fun x190=>((mustP (z153.ports.length+([(⟨x184,x190⟩:DPort)]).length≤4294967296)).bind fun _=>(rec2 (i151+1) z152 (⟨z153.kind,z153.level,z153.value,z153.data,(z153.ports ++ [(⟨x184,x190⟩:DPort)])⟩:DAgent)))))) else some ((⟨0,0,0,[],[]⟩:DAgent),false)))) else (K2 z152 z153))
def m_impl_readAgent_L2 (y5:List ByteArray) (K2:DAgent→DAgent→Option (DAgent × Bool)):Nat→Int→DAgent→DAgent→Option (DAgent × Bool)
  |0,_,_,_=>none
  |g+1,i151,z152,z153=>m_impl_readAgent_B2 y5 (m_impl_readAgent_L2 y5 K2 g) K2 i151 z152 z153
def m_impl_readAgent_A3 (z235:DAgent) (z236:DAgent):Option (DAgent × Bool):=
  some (z236,true)
def m_impl_readAgent_B3 (y5:List ByteArray) (rec3:Int→DAgent→DAgent→Option (DAgent × Bool)) (K3:DAgent→DAgent→Option (DAgent × Bool)) (i245:Int) (z246:DAgent) (z247:DAgent):Option (DAgent × Bool):=
  (bif (decide (i245 < (((y5.length - 1):Nat):Int))) then ((getI (y5.drop 1) i245).bind fun x252=>((m_impl_readNumbers x252 (ByteArray.mk #[46])).bind fun y262=>(bif y262.2 then (bif ((y262.1.length:Int) != 2) then some ((⟨0,0,0,[],[]⟩:DAgent),false) else ((getI y262.1 0).bind fun x278=>((getI y262.1 1).bind fun x284=>((mustP (z247.ports.length+([(⟨x278,x284⟩:DPort)]).length≤4294967296)).bind fun _=>(rec3 (i245+1) z246 (⟨z247.kind,z247.level,z247.value,z247.data,(z247.ports ++ [(⟨x278,x284⟩:DPort)])⟩:DAgent)))))) else some ((⟨0,0,0,[],[]⟩:DAgent),false)))) else (K3 z246 z247))
def m_impl_readAgent_L3 (y5:List ByteArray) (K3:DAgent→DAgent→Option (DAgent × Bool)):Nat→Int→DAgent→DAgent→Option (DAgent × Bool)
  |0,_,_,_=>none
  |g+1,i245,z246,z247=>m_impl_readAgent_B3 y5 (m_impl_readAgent_L3 y5 K3 g) K3 i245 z246 z247
def m_impl_readAgent_A4 (z333:DAgent) (z334:DAgent):Option (DAgent × Bool):=
  some (z334,true)
def m_impl_readAgent_B4 (y5:List ByteArray) (rec4:Int→DAgent→DAgent→Option (DAgent × Bool)) (K4:DAgent→DAgent→Option (DAgent × Bool)) (i343:Int) (z344:DAgent) (z345:DAgent):Option (DAgent × Bool):=
  (bif (decide (i343 < (((y5.length - 1):Nat):Int))) then ((getI (y5.drop 1) i343).bind fun x350=>((m_impl_readNumbers x350 (ByteArray.mk #[46])).bind fun y360=>(bif y360.2 then (bif ((y360.1.length:Int) != 2) then some ((⟨0,0,0,[],[]⟩:DAgent),false) else ((getI y360.1 0).bind fun x376=>((getI y360.1 1).bind fun x382=>((mustP (z345.ports.length+([(⟨x376,x382⟩:DPort)]).length≤4294967296)).bind fun _=>(rec4 (i343+1) z344 (⟨z345.kind,z345.level,z345.value,z345.data,(z345.ports ++ [(⟨x376,x382⟩:DPort)])⟩:DAgent)))))) else some ((⟨0,0,0,[],[]⟩:DAgent),false)))) else (K4 z344 z345))
def m_impl_readAgent_L4 (y5:List ByteArray) (K4:DAgent→DAgent→Option (DAgent × Bool)):Nat→Int→DAgent→DAgent→Option (DAgent × Bool)
  |0,_,_,_=>none
  |g+1,i343,z344,z345=>m_impl_readAgent_B4 y5 (m_impl_readAgent_L4 y5 K4 g) K4 i343 z344 z345
def m_impl_readAgent (d0:ByteArray):Option (DAgent × Bool):=
  ((splitM d0 (ByteArray.mk #[32])).bind fun y5=>((getI y5 0).bind fun x14=>((cutM x14 (ByteArray.mk #[61])).bind fun y20=>((cutM y20.1 (ByteArray.mk #[47])).bind fun y24=>(bif y24.2.2 then ((m_impl_ReadDecimal y24.2.1).bind fun y219=>(bif y219.2 then (bif y20.2.2 then ((m_impl_readContents (⟨(kindNamed y24.1),y219.1,0,[],[]⟩:DAgent) y20.2.1).bind fun y313=>(bif y313.1 then ((mustP (1≤y5.length)).bind fun _=>(m_impl_readAgent_L4 y5 m_impl_readAgent_A4 (((y5.length - 1):Nat)+1) 0 (⟨0,0,0,[],[]⟩:DAgent) (⟨y313.2.kind,y313.2.level,y313.2.value,y313.2.data,y313.2.ports⟩:DAgent))) else some ((⟨0,0,0,[],[]⟩:DAgent),false))) else ((mustP (1≤y5.length)).bind fun _=>(m_impl_readAgent_L3 y5 m_impl_readAgent_A3 (((y5.length - 1):Nat)+1) 0 (⟨0,0,0,[],[]⟩:DAgent) (⟨(kindNamed y24.1),y219.1,0,[],[]⟩:DAgent)))) else some ((⟨0,0,0,[],[]⟩:DAgent),false))) else (bif y20.2.2 then ((m_impl_readContents (⟨(kindNamed y24.1),0,0,[],[]⟩:DAgent) y20.2.1).bind fun y121=>(bif y121.1 then ((mustP (1≤y5.length)).bind fun _=>(m_impl_readAgent_L2 y5 m_impl_readAgent_A2 (((y5.length - 1):Nat)+1) 0 (⟨0,0,0,[],[]⟩:DAgent) (⟨y121.2.kind,y121.2.level,y121.2.value,y121.2.data,y121.2.ports⟩:DAgent))) else some ((⟨0,0,0,[],[]⟩:DAgent),false))) else ((mustP (1≤y5.length)).bind fun _=>(m_impl_readAgent_L1 y5 m_impl_readAgent_A1 (((y5.length - 1):Nat)+1) 0 (⟨0,0,0,[],[]⟩:DAgent) (⟨(kindNamed y24.1),0,0,[],[]⟩:DAgent)))))))))
set_option maxHeartbeats 2000000 in
theorem c_m_impl_readAgent (d0:ByteArray) (r:DAgent × Bool) (hm:m_impl_readAgent d0=some r)  (w:World) (hW:WR w)  :
    Calls Tryz.prog 24 #[.string d0] w fun e w'=>(∃(v0:Value) (v1:Value),e=.returned (.tuple #[.agg #[.int .i64 r.1.kind,.int .i64 r.1.level,.int .i64 r.1.value,v0,v1],.bool r.2])∧OwF 2 encI 1 w' w.heap.size v0 r.1.data∧OwF 61 encPort 2 w' w.heap.size v1 r.1.ports∧Dj v0 v1)∧Below w.heap.size w w':=by
  have T:=Below.refl w.heap.size w
  unfold m_impl_readAgent at hm
  refine enter 89 Tryz.func24 rfl rfl rfl ?_
  intro f hf
  have s0:f 0=.string d0:=hf 0 _ rfl
  refine wp_seq<|wp_rl rfl ?_
  refine RL.alloc (z:=.agg #[.int .i64 0,.int .i64 0,.int .i64 0,.slice none 0 0,.slice none 0 0]) rfl (by kernel_rfl) (fun w1 B2 hb3 szw1=>?_)
  replace B2:Blk w1 w.heap.size 49 #[.int .i64 0,.int .i64 0,.int .i64 0,.slice none 0 0,.slice none 0 0]:=B2
  have GB2:w.heap.size≤w.heap.size:=T.size
  have T:=Tt T hb3
  refine RL.y rfl (Y.assign (v:=.bool false) rfl)<|RL.nil<|then_n<|wp_seq<|wp_rl rfl<|RL.y rfl (Y.move (v:=.string d0) s0) ?_
  obtain ⟨y5,e6,hm⟩:=bnd hm
  refine RL.call rfl (am2 rfl rfl) (by kernel_rfl) ((c_splitM d0 (ByteArray.mk #[32]) _ e6  _ (WR.below hW T).toWD ).mono ?_)
  rintro _ w10 ⟨⟨v7,rfl,G8⟩,hb11⟩
  refine ⟨_,rfl,?_⟩
  have szw10:=hb11.size
  have T0w10:=T.size
  have Zo9_ob4:=ap_ne (Ap.new (OwF.flo G8) (one_hi B2.lt))
  have B2:=blkT B2 hb11
  have T:=Tt T hb11
  replace G8:=OwF.mono G8 T0w10
  refine RL.y rfl (Y.assign (v:=v7) rfl)<|RL.nil<|then_n<|wp_seq<|wp_rb rfl<|RQ.y rfl (Y.move (v:=v7) rfl) ?_
  obtain ⟨A12,c13,rfl⟩:=OwF.form G8
  have qbA12:=OwF.bound G8
  obtain ⟨x14,hx16,hm⟩:=bnd hm
  obtain ⟨k15,hk17,hl18,hx16⟩:=getI_some hx16
  obtain ⟨b19,rfl⟩:=OwF.addr0 G8 (by omega)
  refine RQ.y rfl (Y.indexAddr (m:=k15) (sz:=1) rfl rfl hk17 hl18 (by kernel_rfl))<|RQ.y rfl (Y.load (v:=.string x14) rfl (by kernel_rfl) (beC (OwF.cell fS G8 hx16 (j:=0) rfl))) ?_
  obtain ⟨y20,e21,hm⟩:=bnd hm
  refine RQ.call rfl (am2 rfl rfl) (by kernel_rfl) (v:=.tuple #[.string y20.1,.string y20.2.1,.bool y20.2.2]) (bel (K:=fun _=>True) fun w' hb'=>(c_cutM x14 (ByteArray.mk #[61]) _ e21  w' (WR.below hW (Tt T hb')).toWD ))<|RQ.y rfl (Y.move (v:=.tuple #[.string y20.1,.string y20.2.1,.bool y20.2.2]) rfl)<|RQ.y rfl (Y.extract (i:=0) rfl rfl)<|RQ.y rfl (Y.extract (i:=1) rfl rfl)<|RQ.y rfl (Y.extract (i:=2) rfl rfl)<|RQ.y rfl (Y.assign (v:=.string y20.1) rfl)<|RQ.y rfl (Y.assign (v:=.string y20.2.1) rfl)<|RQ.y rfl (Y.assign (v:=.bool y20.2.2) rfl)<|RQ.nil ?_
  intro w22 hb23
  have szw22:=hb23.size
  have B2:=blkT B2 hb23
  have G8:=OwF.below G8 hb23
  have T:=Tt T hb23
  refine then_n<|wp_seq<|wp_rb rfl<|RQ.y rfl (Y.move (v:=.string y20.1) rfl) ?_
  obtain ⟨y24,e25,hm⟩:=bnd hm
  refine RQ.call rfl (am2 rfl rfl) (by kernel_rfl) (v:=.tuple #[.string y24.1,.string y24.2.1,.bool y24.2.2]) (bel (K:=fun _=>True) fun w' hb'=>(c_cutM y20.1 (ByteArray.mk #[47]) _ e25  w' (WR.below hW (Tt T hb')).toWD ))<|RQ.y rfl (Y.move (v:=.tuple #[.string y24.1,.string y24.2.1,.bool y24.2.2]) rfl)<|RQ.y rfl (Y.extract (i:=0) rfl rfl)<|RQ.y rfl (Y.extract (i:=1) rfl rfl)<|RQ.y rfl (Y.extract (i:=2) rfl rfl)<|RQ.y rfl (Y.assign (v:=.string y24.1) rfl)<|RQ.y rfl (Y.assign (v:=.string y24.2.1) rfl)<|RQ.y rfl (Y.assign (v:=.bool y24.2.2) rfl)<|RQ.nil ?_
  intro w26 hb27
  have szw26:=hb27.size
  have B2:=blkT B2 hb27
  have G8:=OwF.below G8 hb27
  have T:=Tt T hb27
  refine then_n<|wp_seq<|wp_rl rfl<|RL.y rfl (Y.move (v:=.string y24.1) rfl) ?_
  refine RL.call rfl (am1 rfl) (by kernel_rfl) ((impl_KindNamed y24.1 _ (WR.below hW T).toWD.kinds).mono ?_)
  rintro _ w28 ⟨rfl,hb29⟩
  refine ⟨_,rfl,?_⟩
  have szw28:=hb29.size
  have B2:=blkT B2 hb29
  have G8:=OwF.below G8 hb29
  have T:=Tt T hb29
  refine RL.y rfl (Y.build1 (cells:=#[.int .i64 (kindNamed y24.1),.int .i64 0,.int .i64 0,.slice none 0 0,.slice none 0 0]) rfl (by kernel_rfl) (by kernel_rfl)) ?_
  refine RL.alloc (z:=.agg #[.int .i64 0,.int .i64 0,.int .i64 0,.slice none 0 0,.slice none 0 0]) rfl (by kernel_rfl) (fun w30 B31 hb32 szw30=>?_)
  replace B31:Blk w30 w28.heap.size 49 #[.int .i64 0,.int .i64 0,.int .i64 0,.slice none 0 0,.slice none 0 0]:=B31
  have GB31:w.heap.size≤w28.heap.size:=T.size
  have Eob33_ob4:=Nat.ne_of_lt B2.lt
  have No9_ob33:=OwF.far G8 (Nat.le_refl _)
  have B2:=blkT B2 hb32
  have G8:=OwF.below G8 hb32
  have T:=Tt T hb32
  refine RL.store (v:=.agg #[.int .i64 (kindNamed y24.1),.int .i64 0,.int .i64 0,.slice none 0 0,.slice none 0 0]) (cs':=#[.int .i64 (kindNamed y24.1),.int .i64 0,.int .i64 0,.slice none 0 0,.slice none 0 0]) rfl rfl rfl B31 (by kernel_rfl) (by rfl) (by rfl) (by rfl) (fun w34 B35 ho36=>?_)
  have szw34:=ho36.size
  have B2:=B2.only_ ho36 (by intro hin; simp at hin; exact Eob33_ob4 hin)
  have G8:=OwF.only G8 ho36 No9_ob33
  have T:=T.trans (ho36.below (by first|(simp; done)|(simp; omega)))
  refine RL.nil<|then_n<|wp_seq<|wp_seq<|wp_rs rfl<|RQ.y rfl (Y.move (v:=.bool y24.2.2) rfl)<|RQ.nil<|then_n ?_
  rcases bcases y24.2.2 with c37|c37
  ·replace hm:=cF c37 hm
   refine cond_f rfl (vb rfl c37)<|wp_skip<|then_n<|wp_seq<|wp_seq<|wp_rl rfl<|RL.y rfl (Y.move (v:=.bool y20.2.2) rfl)<|RL.y rfl (Y.move (v:=.bool y20.2.2) rfl) ?_
   rcases bcases y20.2.2 with c38|c38
   ·replace hm:=cF c38 hm
    iterate 3 refine RL.skip (wantN (dj:=49) rfl (vb rfl c38) rfl) ?_
    refine RL.y rfl (Y.pick (b:=false) (v:=.bool false) (vb rfl c38) rfl)<|RL.nil<|then_n<|cond_f rfl rfl<|wp_skip<|then_n<|wp_seq<|wp_seq<|wp_rs rfl<|RQ.y rfl (Y.move (v:=.slice (some ⟨b19,0,none⟩) y5.length c13) rfl) ?_
    obtain ⟨_,m39,hm⟩:=bnd hm
    have hk40:=mustP_some m39
    obtain ⟨Av41,eA42⟩ :∃Av,(if c13=1 then (some ⟨b19,0,none⟩) else ((some ⟨b19,0,none⟩):Option Addr).map (·.add (1 * 1)))=Av:=⟨_,rfl⟩
    refine RQ.y rfl (Y.sliceL (l:=1) (sz:=1) rfl rfl rfl hk40 (by kernel_rfl) eA42)<|RQ.y rfl (Y.len (by kernel_rfl) rfl)<|RQ.y rfl (Y.move (v:=.int .i64 0) rfl)<|RQ.nil<|then_n<|wp_block ?_
    obtain ⟨K1,hK1,hm⟩ :∃K,K=m_impl_readAgent_A1∧m_impl_readAgent_L1 y5 K (((y5.length - 1):Nat)+1) 0 (⟨0,0,0,[],[]⟩:DAgent) (⟨(kindNamed y24.1),0,0,[],[]⟩:DAgent)=some r:=⟨_,rfl,hm⟩
    refine wp_loopX (fun g f w'=>∃(i53:Int) (z54:DAgent) (z55:DAgent) (uz54_0:Value) (uz54_1:Value) (uz55_0:Value) (uz55_1:Value),f 2=.pointer (some ⟨w.heap.size,0,none⟩)∧f 11=.pointer (some ⟨w28.heap.size,0,none⟩)∧f 56=.slice Av41 (y5.length - 1) (c13 - 1)∧f 57=.int .i64 (((y5.length - 1):Nat):Int)∧f 58=.int .i64 i53∧0≤i53∧Blk w' w.heap.size 49 #[.int .i64 z54.kind,.int .i64 z54.level,.int .i64 z54.value,uz54_0,uz54_1]∧OwF 2 encI 1 w' w.heap.size uz54_0 z54.data∧OwF 61 encPort 2 w' w.heap.size uz54_1 z54.ports∧Blk w' w28.heap.size 49 #[.int .i64 z55.kind,.int .i64 z55.level,.int .i64 z55.value,uz55_0,uz55_1]∧OwF 2 encI 1 w' w.heap.size uz55_0 z55.data∧OwF 61 encPort 2 w' w.heap.size uz55_1 z55.ports∧Dj uz54_0 (.slice (some ⟨b19,0,none⟩) y5.length c13)∧Value.ownBlock uz54_0 ≠ some w.heap.size∧Value.ownBlock uz54_0 ≠ some w28.heap.size∧Dj uz54_1 uz54_0∧Dj uz54_1 (.slice (some ⟨b19,0,none⟩) y5.length c13)∧Value.ownBlock uz54_1 ≠ some w.heap.size∧Value.ownBlock uz54_1 ≠ some w28.heap.size∧Dj uz55_0 uz54_0∧Dj uz55_0 uz54_1∧Dj uz55_0 (.slice (some ⟨b19,0,none⟩) y5.length c13)∧Value.ownBlock uz55_0 ≠ some w.heap.size∧Value.ownBlock uz55_0 ≠ some w28.heap.size∧Dj uz55_1 uz54_0∧Dj uz55_1 uz54_1∧Dj uz55_1 uz55_0∧Dj uz55_1 (.slice (some ⟨b19,0,none⟩) y5.length c13)∧Value.ownBlock uz55_1 ≠ some w.heap.size∧Value.ownBlock uz55_1 ≠ some w28.heap.size∧OwF 9 encS 1 w' w.heap.size (.slice (some ⟨b19,0,none⟩) y5.length c13) y5∧Below w.heap.size w w'∧m_impl_readAgent_L1 y5 K1 g i53 z54 z55=some r) 0 (fun f w'=>∃(z43:DAgent) (z44:DAgent) (uz43_0:Value) (uz43_1:Value) (uz44_0:Value) (uz44_1:Value),f 2=.pointer (some ⟨w.heap.size,0,none⟩)∧f 11=.pointer (some ⟨w28.heap.size,0,none⟩)∧Blk w' w.heap.size 49 #[.int .i64 z43.kind,.int .i64 z43.level,.int .i64 z43.value,uz43_0,uz43_1]∧OwF 2 encI 1 w' w.heap.size uz43_0 z43.data∧OwF 61 encPort 2 w' w.heap.size uz43_1 z43.ports∧Blk w' w28.heap.size 49 #[.int .i64 z44.kind,.int .i64 z44.level,.int .i64 z44.value,uz44_0,uz44_1]∧OwF 2 encI 1 w' w.heap.size uz44_0 z44.data∧OwF 61 encPort 2 w' w.heap.size uz44_1 z44.ports∧Value.ownBlock uz43_0 ≠ some w.heap.size∧Value.ownBlock uz43_0 ≠ some w28.heap.size∧Dj uz43_1 uz43_0∧Value.ownBlock uz43_1 ≠ some w.heap.size∧Value.ownBlock uz43_1 ≠ some w28.heap.size∧Dj uz44_0 uz43_0∧Dj uz44_0 uz43_1∧Value.ownBlock uz44_0 ≠ some w.heap.size∧Value.ownBlock uz44_0 ≠ some w28.heap.size∧Dj uz44_1 uz43_0∧Dj uz44_1 uz43_1∧Dj uz44_1 uz44_0∧Value.ownBlock uz44_1 ≠ some w.heap.size∧Value.ownBlock uz44_1 ≠ some w28.heap.size∧Below w.heap.size w w'∧m_impl_readAgent_A1 z43 z44=some r) (((y5.length - 1):Nat)+1) ⟨0,(⟨0,0,0,[],[]⟩:DAgent),(⟨(kindNamed y24.1),0,0,[],[]⟩:DAgent),(.slice none 0 0),(.slice none 0 0),(.slice none 0 0),(.slice none 0 0),rfl,rfl,rfl,rfl,rfl,(by omega),B2,OwF.nil,OwF.nil,B35,OwF.nil,OwF.nil,Dj.nil,nilNe (b:=w.heap.size),nilNe (b:=w28.heap.size),Dj.nil,Dj.nil,nilNe (b:=w.heap.size),nilNe (b:=w28.heap.size),Dj.nil,Dj.nil,Dj.nil,nilNe (b:=w.heap.size),nilNe (b:=w28.heap.size),Dj.nil,Dj.nil,Dj.nil,Dj.nil,nilNe (b:=w.heap.size),nilNe (b:=w28.heap.size),G8,T,hm⟩ ?_ ?_
    ·rintro f w45 ⟨z43,z44,uz43_0,uz43_1,uz44_0,uz44_1,s2_1x,s11_1x,Bz43,Guz43_0,Guz43_1,Bz44,Guz44_0,Guz44_1,Noz43_0_ob4,Noz43_0_ob33,Doz43_1_oz43_0,Noz43_1_ob4,Noz43_1_ob33,Doz44_0_oz43_0,Doz44_0_oz43_1,Noz44_0_ob4,Noz44_0_ob33,Doz44_1_oz43_0,Doz44_1_oz43_1,Doz44_1_oz44_0,Noz44_1_ob4,Noz44_1_ob33,T,hm⟩
     unfold m_impl_readAgent_A1 at hm
     refine blk_hit (then_n ?_)
     refine wp_seq<|wp_rl rfl<|RL.y rfl (Y.loadN (cs:=[.int .i64 z44.kind,.int .i64 z44.level,.int .i64 z44.value,uz44_0,uz44_1]) s11_1x (by kernel_rfl) (cells5 (eqC (blkCell Bz44 (i:=0) rfl)) (eqC (blkCell Bz44 (i:=1) rfl)) (eqC (blkCell Bz44 (i:=2) rfl)) (eqC (blkCell Bz44 (i:=3) rfl)) (eqC (blkCell Bz44 (i:=4) rfl)))) ?_
     obtain ⟨A46,c47,rfl⟩:=OwF.form Guz44_0
     have qbA46:=OwF.bound Guz44_0
     obtain ⟨A48,c49,rfl⟩:=OwF.form Guz44_1
     have qbA48:=OwF.bound Guz44_1
     refine RL.store (v:=.agg #[.int .i64 z44.kind,.int .i64 z44.level,.int .i64 z44.value,.slice A46 z44.data.length c47,.slice A48 z44.ports.length c49]) (cs':=#[.int .i64 z44.kind,.int .i64 z44.level,.int .i64 z44.value,.slice A46 z44.data.length c47,.slice A48 z44.ports.length c49]) rfl s2_1x rfl Bz43 (by kernel_rfl) (by rfl) (by rfl) (by rfl) (fun w50 B51 ho52=>?_)
     have szw50:=ho52.size
     have Bz44:=Bz44.only_ ho52 (by intro hin; simp at hin; exact Eob33_ob4.symm hin)
     have Guz43_0:=OwF.only Guz43_0 ho52 Noz43_0_ob4
     have Guz43_1:=OwF.only Guz43_1 ho52 Noz43_1_ob4
     have Guz44_0:=OwF.only Guz44_0 ho52 Noz44_0_ob4
     have Guz44_1:=OwF.only Guz44_1 ho52 Noz44_1_ob4
     have T:=T.trans (ho52.below (by first|(simp; done)|(simp; omega)))
     refine RL.y rfl (Y.assign (v:=.bool true) rfl)<|RL.nil<|then_n<|wp_ret ?_
     obtain rfl:=sj hm
     exact (retct (cs:=[.int .i64 z44.kind,.int .i64 z44.level,.int .i64 z44.value,.slice A46 z44.data.length c47,.slice A48 z44.ports.length c49]) rfl rfl s2_1x rfl (by kernel_rfl) (blkCells B51) ⟨⟨_,_,rfl,Guz44_0,Guz44_1,(Ap.dj (Ap.symm (Dj.ap Doz44_1_oz44_0)))⟩,T⟩)
    rintro g f w56 ⟨i53,z54,z55,uz54_0,uz54_1,uz55_0,uz55_1,s2_1,s11_1,s56_1,s57_1,s58_1,nn58_1,Bz54,Guz54_0,Guz54_1,Bz55,Guz55_0,Guz55_1,Doz54_0_o9,Noz54_0_ob4,Noz54_0_ob33,Doz54_1_oz54_0,Doz54_1_o9,Noz54_1_ob4,Noz54_1_ob33,Doz55_0_oz54_0,Doz55_0_oz54_1,Doz55_0_o9,Noz55_0_ob4,Noz55_0_ob33,Doz55_1_oz54_0,Doz55_1_oz54_1,Doz55_1_oz55_0,Doz55_1_o9,Noz55_1_ob4,Noz55_1_ob33,G8,T,hm⟩
    rcases g with _|g
    ·simp only [m_impl_readAgent_L1] at hm; cases hm
    obtain ⟨rec1,hrec1,hm⟩ :∃z,z=m_impl_readAgent_L1 y5 K1 g∧m_impl_readAgent_B1 y5 z K1 i53 z54 z55=some r:=⟨_,rfl,hm⟩
    unfold m_impl_readAgent_B1 at hm
    refine wp_seq<|wp_rs rfl<|RQ.y rfl (Y.binI (v:=.bool (decide (i53 < (((y5.length - 1):Nat):Int)))) s58_1 s57_1 rfl)<|RQ.nil<|then_n<|wp_seq ?_
    rcases bcases (decide (i53 < (((y5.length - 1):Nat):Int))) with c57|c57
    ·replace hm:=cF c57 hm
     have pc57:=of_decide_eq_false c57
     refine cond_f rfl (vb rfl c57)<|wp_exit ?_
     exact (then_x (then_x (hit_x ⟨_,rfl,⟨z54,z55,(uz54_0),(uz54_1),(uz55_0),(uz55_1),s2_1,s11_1,Bz54,Guz54_0,Guz54_1,Bz55,Guz55_0,Guz55_1,(ap_ne (ne_ap Noz54_0_ob4)),(ap_ne (ne_ap Noz54_0_ob33)),(Ap.dj (Dj.ap Doz54_1_oz54_0)),(ap_ne (ne_ap Noz54_1_ob4)),(ap_ne (ne_ap Noz54_1_ob33)),(Ap.dj (Dj.ap Doz55_0_oz54_0)),(Ap.dj (Dj.ap Doz55_0_oz54_1)),(ap_ne (ne_ap Noz55_0_ob4)),(ap_ne (ne_ap Noz55_0_ob33)),(Ap.dj (Dj.ap Doz55_1_oz54_0)),(Ap.dj (Dj.ap Doz55_1_oz54_1)),(Ap.dj (Dj.ap Doz55_1_oz55_0)),(ap_ne (ne_ap Noz55_1_ob4)),(ap_ne (ne_ap Noz55_1_ob33)),T,(by rw [hK1] at hm; exact hm)⟩⟩)))
    replace hm:=cT c57 hm
    have pc57:=of_decide_eq_true c57
    refine cond_t rfl (vb rfl c57)<|wp_skip<|then_n<|wp_seq<|wp_block<|wp_seq<|wp_rs rfl ?_
    have ⟨h58,r59⟩:=(OwF.view fS G8 (l:=1) hk40 eA42)
    obtain ⟨x60,hx63,hm⟩:=bnd hm
    obtain ⟨k61,hk64,hl65,hx63⟩:=getI_some hx63
    have hl67:k61 < (y5.length - 1):=by have:=h58.len; omega
    obtain ⟨b68,o69,rfl,hbb68⟩:=h58.addr (by omega)
    obtain ⟨cs62,hRcs62,hc66⟩:=h58.el hx63
    have hScs62:=hRcs62
    obtain rfl:=hRcs62
    refine RQ.y rfl (Y.indexAddr (m:=k61) (sz:=1) s56_1 s58_1 hk64 hl67 (by kernel_rfl))<|RQ.y rfl (Y.load (v:=.string x60) rfl (by kernel_rfl) (eqC (hc66 0 _ rfl)))<|RQ.y rfl (Y.assign (v:=.string x60) rfl)<|RQ.nil<|then_n<|wp_seq<|wp_rl rfl<|RL.y rfl (Y.move (v:=.string x60) rfl) ?_
    obtain ⟨y70,e71,hm⟩:=bnd hm
    refine RL.call rfl (am2 rfl rfl) (by kernel_rfl) ((c_m_impl_readNumbers x60 (ByteArray.mk #[46]) _ e71  _ (WR.below hW T) ).mono ?_)
    rintro _ w75 ⟨⟨v72,rfl,G73⟩,hb76⟩
    refine ⟨_,rfl,?_⟩
    have szw75:=hb76.size
    have T0w75:=T.size
    have Zo74_ob4:=ap_ne (Ap.new (OwF.flo G73) (one_hi Bz54.lt))
    have Zo74_ob33:=ap_ne (Ap.new (OwF.flo G73) (one_hi Bz55.lt))
    have Zo74_o9:=Ap.dj (Ap.new (OwF.flo G73) (OwF.fhi G8))
    have Zo74_oz54_0:=Ap.dj (Ap.new (OwF.flo G73) (OwF.fhi Guz54_0))
    have Zo74_oz54_1:=Ap.dj (Ap.new (OwF.flo G73) (OwF.fhi Guz54_1))
    have Zo74_oz55_0:=Ap.dj (Ap.new (OwF.flo G73) (OwF.fhi Guz55_0))
    have Zo74_oz55_1:=Ap.dj (Ap.new (OwF.flo G73) (OwF.fhi Guz55_1))
    have Bz54:=blkT Bz54 hb76
    have Bz55:=blkT Bz55 hb76
    have G8:=OwF.below G8 hb76
    have Guz54_0:=OwF.below Guz54_0 hb76
    have Guz54_1:=OwF.below Guz54_1 hb76
    have Guz55_0:=OwF.below Guz55_0 hb76
    have Guz55_1:=OwF.below Guz55_1 hb76
    have T:=Tt T hb76
    replace G73:=OwF.mono G73 T0w75
    refine RL.y rfl (Y.move (v:=.tuple #[v72,.bool y70.2]) rfl)<|RL.y rfl (Y.extract (i:=0) rfl rfl)<|RL.y rfl (Y.extract (i:=1) rfl rfl)<|RL.y rfl (Y.assign (v:=v72) rfl)<|RL.y rfl (Y.assign (v:=.bool y70.2) rfl)<|RL.nil<|then_n<|wp_seq<|wp_seq<|wp_rs rfl<|RQ.y rfl (Y.move (v:=.bool y70.2) rfl)<|RQ.y rfl (Y.not (b':=(!y70.2)) rfl rfl)<|RQ.y rfl (Y.move (v:=.bool (!y70.2)) rfl) ?_
    rcases bcases y70.2 with c77|c77
    ·replace hm:=cF c77 hm
     iterate 3 refine RQ.skip (wantN (dj:=69) rfl (vbn rfl c77 rfl) rfl) ?_
     refine RQ.y rfl (Y.pick (b:=true) (v:=.bool true) (vbn rfl c77 rfl) rfl)<|RQ.nil<|then_n<|cond_t rfl rfl<|wp_seq<|wp_rl rfl<|RL.y rfl (Y.build0 (cells:=#[.int .i64 0,.int .i64 0,.int .i64 0,.slice none 0 0,.slice none 0 0])  (by kernel_rfl) (by kernel_rfl)) ?_
     refine RL.store (v:=.agg #[.int .i64 0,.int .i64 0,.int .i64 0,.slice none 0 0,.slice none 0 0]) (cs':=#[.int .i64 0,.int .i64 0,.int .i64 0,.slice none 0 0,.slice none 0 0]) rfl s2_1 rfl Bz54 (by kernel_rfl) (by rfl) (by rfl) (by rfl) (fun w78 B79 ho80=>?_)
     have szw78:=ho80.size
     have Bz55:=Bz55.only_ ho80 (by intro hin; simp at hin; exact Eob33_ob4.symm hin)
     have G8:=OwF.only G8 ho80 Zo9_ob4
     have Guz54_0:=OwF.only Guz54_0 ho80 Noz54_0_ob4
     have Guz54_1:=OwF.only Guz54_1 ho80 Noz54_1_ob4
     have Guz55_0:=OwF.only Guz55_0 ho80 Noz55_0_ob4
     have Guz55_1:=OwF.only Guz55_1 ho80 Noz55_1_ob4
     have G73:=OwF.only G73 ho80 Zo74_ob4
     have T:=T.trans (ho80.below (by first|(simp; done)|(simp; omega)))
     refine RL.y rfl (Y.assign (v:=.bool false) rfl)<|RL.nil<|then_n<|wp_ret ?_
     obtain rfl:=sj hm
     exact (then_r (blk_r (then_r (then_r (hit_r (blk_r (then_r (retct (cs:=[.int .i64 0,.int .i64 0,.int .i64 0,.slice none 0 0,.slice none 0 0]) rfl rfl s2_1 rfl (by kernel_rfl) (blkCells B79) ⟨⟨_,_,rfl,OwF.nil,OwF.nil,Dj.nil⟩,T⟩))))))))
    replace hm:=cT c77 hm
    refine RQ.y (wantT (dj:=69) rfl (vbn rfl c77 rfl)) (Y.move (v:=v72) rfl) ?_
    obtain ⟨A81,c82,rfl⟩:=OwF.form G73
    have qbA81:=OwF.bound G73
    refine RQ.y (wantT (dj:=69) rfl (vbn rfl c77 rfl)) (Y.len (by kernel_rfl) rfl)<|RQ.y (wantT (dj:=69) rfl (vbn rfl c77 rfl)) (Y.binI (v:=.bool ((y70.1.length:Int) != 2)) rfl rfl rfl)<|RQ.y rfl (Y.pick (b:=false) (v:=.bool ((y70.1.length:Int) != 2)) (vbn rfl c77 rfl) rfl)<|RQ.nil<|then_n ?_
    rcases bcases ((y70.1.length:Int) != 2) with c83|c83
    ·replace hm:=cF c83 hm
     refine cond_f rfl (vb rfl c83)<|wp_skip<|then_n ?_
     refine wp_rgx (fun w'=>Blk w' w28.heap.size 49 #[.int .i64 z55.kind,.int .i64 z55.level,.int .i64 z55.value,uz55_0,uz55_1]) (fun w'=>Below w.heap.size w w'∧OwF 2 encI 1 w' w.heap.size (.slice A81 y70.1.length c82) y70.1) 12 (.q 0 (.e 1 (.q 2 (.q 3 (.q 4 (.q 5 (.q 6 (.q 7 (.q 8 (.a 9 (.a 10 (.q 11 (.a 12 .nil))))))))))))) (by kernel_rfl) (by kernel_rfl) (fun w84 hb85 szw84=>?_)
     have Bz54:=blkT Bz54 hb85
     have Bz55:=blkT Bz55 hb85
     have G8:=OwF.below G8 hb85
     have Guz54_0:=OwF.below Guz54_0 hb85
     have Guz54_1:=OwF.below Guz54_1 hb85
     have Guz55_0:=OwF.below Guz55_0 hb85
     have Guz55_1:=OwF.below Guz55_1 hb85
     have G73:=OwF.below G73 hb85
     have T:=Tt T hb85
     refine ⟨⟨Bz55,⟨T,G73⟩⟩,?_⟩
     refine RX.y rfl rfl (Y.fieldAddr (off:=4) s11_1 (by kernel_rfl))<|RX.e rfl rfl (Y.load (v:=uz55_1) rfl (by kernel_rfl) (fun w' hS=>(blkCell hS.1 (i:=4) rfl)))<|RX.y rfl rfl (Y.move (v:=.slice A81 y70.1.length c82) rfl) ?_
     obtain ⟨x86,hx88,hm⟩:=bnd hm
     obtain ⟨k87,hk89,hl90,hx88⟩:=getI_some hx88
     obtain ⟨b91,rfl⟩:=OwF.addr0 G73 (by omega)
     refine RX.y rfl rfl (Y.indexAddr (m:=k87) (sz:=1) rfl rfl hk89 hl90 (by kernel_rfl))<|RX.y rfl rfl (Y.load (v:=.int .i64 x86) rfl (by kernel_rfl) (fun w' hS=>(OwF.cell fI hS.2 hx88 (j:=0) rfl)))<|RX.y rfl rfl (Y.move (v:=.slice (some ⟨b91,0,none⟩) y70.1.length c82) rfl) ?_
     obtain ⟨x92,hx94,hm⟩:=bnd hm
     obtain ⟨k93,hk95,hl96,hx94⟩:=getI_some hx94
     refine RX.y rfl rfl (Y.indexAddr (m:=k93) (sz:=1) rfl rfl hk95 hl96 (by kernel_rfl))<|RX.y rfl rfl (Y.load (v:=.int .i64 x92) rfl (by kernel_rfl) (fun w' hS=>(OwF.cell fI hS.2 hx94 (j:=0) rfl)))<|RX.y rfl rfl (Y.build2 (cells:=#[.int .i64 x86,.int .i64 x92]) rfl rfl (by kernel_rfl) (by kernel_rfl))<|RX.act rfl rfl ?_
     refine RL.bslice (e:=61) (cells:=#[.int .i64 x86,.int .i64 x92]) rfl (pm1 rfl) (by kernel_rfl) (fun w97 B98 hb99 szw97=>?_)
     have ZB98:w.heap.size≤w84.heap.size:=T.size
     have No100_ob4:=litNe (n:=1) (c:=1) Bz54.lt
     have No100_ob33:=litNe (n:=1) (c:=1) Bz55.lt
     have Do100_o9:=Dj.new (v:=.slice (some ⟨w84.heap.size,0,none⟩) 1 1) litGe (OwF.hi G8)
     have Do100_oz54_0:=Dj.new (v:=.slice (some ⟨w84.heap.size,0,none⟩) 1 1) litGe (OwF.hi Guz54_0)
     have Do100_oz54_1:=Dj.new (v:=.slice (some ⟨w84.heap.size,0,none⟩) 1 1) litGe (OwF.hi Guz54_1)
     have Do100_oz55_0:=Dj.new (v:=.slice (some ⟨w84.heap.size,0,none⟩) 1 1) litGe (OwF.hi Guz55_0)
     have Do100_oz55_1:=Dj.new (v:=.slice (some ⟨w84.heap.size,0,none⟩) 1 1) litGe (OwF.hi Guz55_1)
     have Do100_o74:=Dj.new (v:=.slice (some ⟨w84.heap.size,0,none⟩) 1 1) litGe (OwF.hi G73)
     have Bz54:=blkT Bz54 hb99
     have Bz55:=blkT Bz55 hb99
     have G8:=OwF.below G8 hb99
     have Guz54_0:=OwF.below Guz54_0 hb99
     have Guz54_1:=OwF.below Guz54_1 hb99
     have Guz55_0:=OwF.below Guz55_0 hb99
     have Guz55_1:=OwF.below Guz55_1 hb99
     have G73:=OwF.below G73 hb99
     have T:=Tt T hb99
     have G101:=OwF.lit (enc:=encPort) (sz:=2) (xs:=[(⟨x86,x92⟩:DPort)]) B98 ZB98 rfl rfl rfl rfl
     refine RL.nil ⟨⟨Bz55,⟨T,G73⟩⟩,?_⟩
     refine RX.act rfl rfl ?_
     obtain ⟨_,m103,hm⟩:=bnd hm
     have hk104:=mustP_some m103
     refine RL.append fPort app_impl_Port rfl rfl rfl Guz55_1 (OwF.arg fPort G101) T.size hk104 (fun v105 w106 G107 hgr108 hbl109 hnb110=>?_)
     have szw106:=hbl109.size
     have No111_ob4:=ne_app hnb110 Noz55_1_ob4 Bz54.lt
     have No111_ob33:=ne_app hnb110 Noz55_1_ob33 Bz55.lt
     have Do111_o9:=Dj.app Doz55_1_o9 hnb110 (OwF.hi G8)
     have Do111_oz54_0:=Dj.app Doz55_1_oz54_0 hnb110 (OwF.hi Guz54_0)
     have Do111_oz54_1:=Dj.app Doz55_1_oz54_1 hnb110 (OwF.hi Guz54_1)
     have Do111_oz55_0:=Dj.app Doz55_1_oz55_0 hnb110 (OwF.hi Guz55_0)
     have Do111_o74:=Dj.app (Dj.symm Zo74_oz55_1) hnb110 (OwF.hi G73)
     have Bz54:=Blk.kept Bz54 hgr108 Noz55_1_ob4
     have Bz55:=Blk.kept Bz55 hgr108 Noz55_1_ob33
     have G8:=OwF.keptD G8 hgr108 (Dj.symm Doz55_1_o9)
     have Guz54_0:=OwF.keptD Guz54_0 hgr108 (Dj.symm Doz55_1_oz54_0)
     have Guz54_1:=OwF.keptD Guz54_1 hgr108 (Dj.symm Doz55_1_oz54_1)
     have Guz55_0:=OwF.keptD Guz55_0 hgr108 (Dj.symm Doz55_1_oz55_0)
     have G73:=OwF.keptD G73 hgr108 Zo74_oz55_1
     have T:=T.trans hbl109
     refine RL.nil ⟨⟨Bz55,⟨T,G73⟩⟩,?_⟩
     refine RX.y rfl rfl (Y.fieldAddr (off:=4) s11_1 (by kernel_rfl))<|RX.actk rfl rfl ?_
     obtain ⟨A112,c113,rfl⟩:=OwF.form G107
     have qbA112:=OwF.bound G107
     refine RL.store (v:=.slice A112 ((z55.ports ++ [(⟨x86,x92⟩:DPort)]).length) c113) (cs':=#[.int .i64 z55.kind,.int .i64 z55.level,.int .i64 z55.value,uz55_0,.slice A112 ((z55.ports ++ [(⟨x86,x92⟩:DPort)]).length) c113]) rfl rfl rfl Bz55 (by kernel_rfl) (by rfl) (by rfl) (by rfl) (fun w114 B115 ho116=>?_)
     have szw114:=ho116.size
     have Bz54:=Bz54.only_ ho116 (by intro hin; simp at hin; exact Eob33_ob4 hin)
     have G8:=OwF.only G8 ho116 No9_ob33
     have Guz54_0:=OwF.only Guz54_0 ho116 Noz54_0_ob33
     have Guz54_1:=OwF.only Guz54_1 ho116 Noz54_1_ob33
     have Guz55_0:=OwF.only Guz55_0 ho116 Noz55_0_ob33
     have G73:=OwF.only G73 ho116 Zo74_ob33
     have G107:=OwF.only G107 ho116 No111_ob33
     have T:=T.trans (ho116.below (by first|(simp; done)|(simp; omega)))
     refine RL.nil ⟨⟨T,G73⟩,?_⟩
     refine RX.nil_ ?_
     refine blk_n (then_n ?_)
     refine wp_rs rfl<|RQ.y rfl (Y.binI s58_1 rfl (binI_add (m:=i53) (by omega)))<|RQ.y rfl (Y.move (v:=.int .i64 (i53+1)) rfl)<|RQ.nil ?_
     exact (then_n ⟨g,_,Nat.lt_succ_self _,rfl,⟨(i53+1),z54,(⟨z55.kind,z55.level,z55.value,z55.data,(z55.ports ++ [(⟨x86,x92⟩:DPort)])⟩:DAgent),(uz54_0),(uz54_1),(uz55_0),(.slice A112 ((z55.ports ++ [(⟨x86,x92⟩:DPort)]).length) c113),s2_1,s11_1,s56_1,s57_1,rfl,(by omega),Bz54,Guz54_0,Guz54_1,B115,Guz55_0,G107,(Ap.dj (Dj.ap Doz54_0_o9)),(ap_ne (ne_ap Noz54_0_ob4)),(ap_ne (ne_ap Noz54_0_ob33)),(Ap.dj (Dj.ap Doz54_1_oz54_0)),(Ap.dj (Dj.ap Doz54_1_o9)),(ap_ne (ne_ap Noz54_1_ob4)),(ap_ne (ne_ap Noz54_1_ob33)),(Ap.dj (Dj.ap Doz55_0_oz54_0)),(Ap.dj (Dj.ap Doz55_0_oz54_1)),(Ap.dj (Dj.ap Doz55_0_o9)),(ap_ne (ne_ap Noz55_0_ob4)),(ap_ne (ne_ap Noz55_0_ob33)),(Ap.dj (Dj.ap Do111_oz54_0)),(Ap.dj (Dj.ap Do111_oz54_1)),(Ap.dj (Dj.ap Do111_oz55_0)),(Ap.dj (Dj.ap Do111_o9)),(ap_ne (ne_ap No111_ob4)),(ap_ne (ne_ap No111_ob33)),G8,T,(by rw [← hrec1]; exact hm)⟩⟩)
    replace hm:=cT c83 hm
    refine cond_t rfl (vb rfl c83)<|wp_seq<|wp_rl rfl<|RL.y rfl (Y.build0 (cells:=#[.int .i64 0,.int .i64 0,.int .i64 0,.slice none 0 0,.slice none 0 0])  (by kernel_rfl) (by kernel_rfl)) ?_
    refine RL.store (v:=.agg #[.int .i64 0,.int .i64 0,.int .i64 0,.slice none 0 0,.slice none 0 0]) (cs':=#[.int .i64 0,.int .i64 0,.int .i64 0,.slice none 0 0,.slice none 0 0]) rfl s2_1 rfl Bz54 (by kernel_rfl) (by rfl) (by rfl) (by rfl) (fun w117 B118 ho119=>?_)
    have szw117:=ho119.size
    have Bz55:=Bz55.only_ ho119 (by intro hin; simp at hin; exact Eob33_ob4.symm hin)
    have G8:=OwF.only G8 ho119 Zo9_ob4
    have Guz54_0:=OwF.only Guz54_0 ho119 Noz54_0_ob4
    have Guz54_1:=OwF.only Guz54_1 ho119 Noz54_1_ob4
    have Guz55_0:=OwF.only Guz55_0 ho119 Noz55_0_ob4
    have Guz55_1:=OwF.only Guz55_1 ho119 Noz55_1_ob4
    have G73:=OwF.only G73 ho119 Zo74_ob4
    have T:=T.trans (ho119.below (by first|(simp; done)|(simp; omega)))
    refine RL.y rfl (Y.assign (v:=.bool false) rfl)<|RL.nil<|then_n<|wp_ret ?_
    obtain rfl:=sj hm
    exact (then_r (blk_r (then_r (then_r (hit_r (blk_r (then_r (retct (cs:=[.int .i64 0,.int .i64 0,.int .i64 0,.slice none 0 0,.slice none 0 0]) rfl rfl s2_1 rfl (by kernel_rfl) (blkCells B118) ⟨⟨_,_,rfl,OwF.nil,OwF.nil,Dj.nil⟩,T⟩))))))))
   replace hm:=cT c38 hm
   refine RL.y (wantT (dj:=49) rfl (vb rfl c38)) (Y.move (v:=.string y20.2.1) rfl) ?_
   obtain ⟨y121,e122,hm⟩:=bnd hm
   refine RL.call (wantT (dj:=49) rfl (vb rfl c38)) (am2 rfl rfl) (by kernel_rfl) ((c_m_impl_readContents (⟨(kindNamed y24.1),0,0,[],[]⟩:DAgent) y20.2.1 _ e122  w w34 T hW  _ B35 GB31).mono ?_)
   rintro _ w129 ⟨⟨v123,v126,rfl,G124,G127,Ro125_o128,B132⟩,K130,hb131⟩
   refine ⟨_,rfl,?_⟩
   have szw129:=K130.size
   have T0w129:=T.size
   have Zo125_ob4:=ap_ne (Ap.new (OwF.flo G124) (one_hi B2.lt))
   have Zo125_ob33:=ap_ne (Ap.new (OwF.flo G124) (one_hi B35.lt))
   have Zo125_o9:=Ap.dj (Ap.new (OwF.flo G124) (OwF.fhi G8))
   have Zo128_ob4:=ap_ne (Ap.new (OwF.flo G127) (one_hi B2.lt))
   have Zo128_ob33:=ap_ne (Ap.new (OwF.flo G127) (one_hi B35.lt))
   have Zo128_o9:=Ap.dj (Ap.new (OwF.flo G127) (OwF.fhi G8))
   have B2:=Blk.keepV B2 K130 (cellNe Eob33_ob4) (cellNe Eob33_ob4)
   have G8:=OwF.keepV G8 K130 (cellDj No9_ob33) (cellDj No9_ob33)
   have T:=hb131
   replace G124:=OwF.mono G124 T0w129
   replace G127:=OwF.mono G127 T0w129
   refine RL.y (wantT (dj:=49) rfl (vb rfl c38)) (Y.not (b':=(!y121.1)) rfl rfl)<|RL.y rfl (Y.pick (b:=true) (v:=.bool (!y121.1)) (vb rfl c38) rfl)<|RL.nil<|then_n ?_
   rcases bcases y121.1 with c133|c133
   ·replace hm:=cF c133 hm
    refine cond_t rfl (vbn rfl c133 rfl)<|wp_seq<|wp_rl rfl<|RL.y rfl (Y.build0 (cells:=#[.int .i64 0,.int .i64 0,.int .i64 0,.slice none 0 0,.slice none 0 0])  (by kernel_rfl) (by kernel_rfl)) ?_
    refine RL.store (v:=.agg #[.int .i64 0,.int .i64 0,.int .i64 0,.slice none 0 0,.slice none 0 0]) (cs':=#[.int .i64 0,.int .i64 0,.int .i64 0,.slice none 0 0,.slice none 0 0]) rfl rfl rfl B2 (by kernel_rfl) (by rfl) (by rfl) (by rfl) (fun w134 B135 ho136=>?_)
    have szw134:=ho136.size
    have B132:=B132.only_ ho136 (by intro hin; simp at hin; exact Eob33_ob4.symm hin)
    have G8:=OwF.only G8 ho136 Zo9_ob4
    have G124:=OwF.only G124 ho136 Zo125_ob4
    have G127:=OwF.only G127 ho136 Zo128_ob4
    have T:=T.trans (ho136.below (by first|(simp; done)|(simp; omega)))
    refine RL.y rfl (Y.assign (v:=.bool false) rfl)<|RL.nil<|then_n<|wp_ret ?_
    obtain rfl:=sj hm
    exact (then_r (retct (cs:=[.int .i64 0,.int .i64 0,.int .i64 0,.slice none 0 0,.slice none 0 0]) rfl rfl rfl rfl (by kernel_rfl) (blkCells B135) ⟨⟨_,_,rfl,OwF.nil,OwF.nil,Dj.nil⟩,T⟩))
   replace hm:=cT c133 hm
   refine cond_f rfl (vbn rfl c133 rfl)<|wp_skip<|then_n<|wp_seq<|wp_seq<|wp_rs rfl<|RQ.y rfl (Y.move (v:=.slice (some ⟨b19,0,none⟩) y5.length c13) rfl) ?_
   obtain ⟨_,m137,hm⟩:=bnd hm
   have hk138:=mustP_some m137
   obtain ⟨Av139,eA140⟩ :∃Av,(if c13=1 then (some ⟨b19,0,none⟩) else ((some ⟨b19,0,none⟩):Option Addr).map (·.add (1 * 1)))=Av:=⟨_,rfl⟩
   refine RQ.y rfl (Y.sliceL (l:=1) (sz:=1) rfl rfl rfl hk138 (by kernel_rfl) eA140)<|RQ.y rfl (Y.len (by kernel_rfl) rfl)<|RQ.y rfl (Y.move (v:=.int .i64 0) rfl)<|RQ.nil<|then_n<|wp_block ?_
   obtain ⟨K2,hK2,hm⟩ :∃K,K=m_impl_readAgent_A2∧m_impl_readAgent_L2 y5 K (((y5.length - 1):Nat)+1) 0 (⟨0,0,0,[],[]⟩:DAgent) (⟨y121.2.kind,y121.2.level,y121.2.value,y121.2.data,y121.2.ports⟩:DAgent)=some r:=⟨_,rfl,hm⟩
   refine wp_loopX (fun g f w'=>∃(i151:Int) (z152:DAgent) (z153:DAgent) (uz152_0:Value) (uz152_1:Value) (uz153_0:Value) (uz153_1:Value),f 2=.pointer (some ⟨w.heap.size,0,none⟩)∧f 11=.pointer (some ⟨w28.heap.size,0,none⟩)∧f 56=.slice Av139 (y5.length - 1) (c13 - 1)∧f 57=.int .i64 (((y5.length - 1):Nat):Int)∧f 58=.int .i64 i151∧0≤i151∧Blk w' w.heap.size 49 #[.int .i64 z152.kind,.int .i64 z152.level,.int .i64 z152.value,uz152_0,uz152_1]∧OwF 2 encI 1 w' w.heap.size uz152_0 z152.data∧OwF 61 encPort 2 w' w.heap.size uz152_1 z152.ports∧Blk w' w28.heap.size 49 #[.int .i64 z153.kind,.int .i64 z153.level,.int .i64 z153.value,uz153_0,uz153_1]∧OwF 2 encI 1 w' w.heap.size uz153_0 z153.data∧OwF 61 encPort 2 w' w.heap.size uz153_1 z153.ports∧Dj uz152_0 (.slice (some ⟨b19,0,none⟩) y5.length c13)∧Value.ownBlock uz152_0 ≠ some w.heap.size∧Value.ownBlock uz152_0 ≠ some w28.heap.size∧Dj uz152_1 uz152_0∧Dj uz152_1 (.slice (some ⟨b19,0,none⟩) y5.length c13)∧Value.ownBlock uz152_1 ≠ some w.heap.size∧Value.ownBlock uz152_1 ≠ some w28.heap.size∧Dj uz153_0 uz152_0∧Dj uz153_0 uz152_1∧Dj uz153_0 (.slice (some ⟨b19,0,none⟩) y5.length c13)∧Value.ownBlock uz153_0 ≠ some w.heap.size∧Value.ownBlock uz153_0 ≠ some w28.heap.size∧Dj uz153_1 uz152_0∧Dj uz153_1 uz152_1∧Dj uz153_1 uz153_0∧Dj uz153_1 (.slice (some ⟨b19,0,none⟩) y5.length c13)∧Value.ownBlock uz153_1 ≠ some w.heap.size∧Value.ownBlock uz153_1 ≠ some w28.heap.size∧OwF 9 encS 1 w' w.heap.size (.slice (some ⟨b19,0,none⟩) y5.length c13) y5∧Below w.heap.size w w'∧m_impl_readAgent_L2 y5 K2 g i151 z152 z153=some r) 0 (fun f w'=>∃(z141:DAgent) (z142:DAgent) (uz141_0:Value) (uz141_1:Value) (uz142_0:Value) (uz142_1:Value),f 2=.pointer (some ⟨w.heap.size,0,none⟩)∧f 11=.pointer (some ⟨w28.heap.size,0,none⟩)∧Blk w' w.heap.size 49 #[.int .i64 z141.kind,.int .i64 z141.level,.int .i64 z141.value,uz141_0,uz141_1]∧OwF 2 encI 1 w' w.heap.size uz141_0 z141.data∧OwF 61 encPort 2 w' w.heap.size uz141_1 z141.ports∧Blk w' w28.heap.size 49 #[.int .i64 z142.kind,.int .i64 z142.level,.int .i64 z142.value,uz142_0,uz142_1]∧OwF 2 encI 1 w' w.heap.size uz142_0 z142.data∧OwF 61 encPort 2 w' w.heap.size uz142_1 z142.ports∧Value.ownBlock uz141_0 ≠ some w.heap.size∧Value.ownBlock uz141_0 ≠ some w28.heap.size∧Dj uz141_1 uz141_0∧Value.ownBlock uz141_1 ≠ some w.heap.size∧Value.ownBlock uz141_1 ≠ some w28.heap.size∧Dj uz142_0 uz141_0∧Dj uz142_0 uz141_1∧Value.ownBlock uz142_0 ≠ some w.heap.size∧Value.ownBlock uz142_0 ≠ some w28.heap.size∧Dj uz142_1 uz141_0∧Dj uz142_1 uz141_1∧Dj uz142_1 uz142_0∧Value.ownBlock uz142_1 ≠ some w.heap.size∧Value.ownBlock uz142_1 ≠ some w28.heap.size∧Below w.heap.size w w'∧m_impl_readAgent_A2 z141 z142=some r) (((y5.length - 1):Nat)+1) ⟨0,(⟨0,0,0,[],[]⟩:DAgent),(⟨y121.2.kind,y121.2.level,y121.2.value,y121.2.data,y121.2.ports⟩:DAgent),(.slice none 0 0),(.slice none 0 0),(v123),(v126),rfl,rfl,rfl,rfl,rfl,(by omega),B2,OwF.nil,OwF.nil,B132,G124,G127,Dj.nil,nilNe (b:=w.heap.size),nilNe (b:=w28.heap.size),Dj.nil,Dj.nil,nilNe (b:=w.heap.size),nilNe (b:=w28.heap.size),(Dj.symm Dj.nil),(Dj.symm Dj.nil),(Ap.dj (Dj.ap Zo125_o9)),(ap_ne (ne_ap Zo125_ob4)),(ap_ne (ne_ap Zo125_ob33)),(Dj.symm Dj.nil),(Dj.symm Dj.nil),(Ap.dj (Ap.symm (Dj.ap Ro125_o128))),(Ap.dj (Dj.ap Zo128_o9)),(ap_ne (ne_ap Zo128_ob4)),(ap_ne (ne_ap Zo128_ob33)),G8,T,hm⟩ ?_ ?_
   ·rintro f w143 ⟨z141,z142,uz141_0,uz141_1,uz142_0,uz142_1,s2_2x,s11_2x,Bz141,Guz141_0,Guz141_1,Bz142,Guz142_0,Guz142_1,Noz141_0_ob4,Noz141_0_ob33,Doz141_1_oz141_0,Noz141_1_ob4,Noz141_1_ob33,Doz142_0_oz141_0,Doz142_0_oz141_1,Noz142_0_ob4,Noz142_0_ob33,Doz142_1_oz141_0,Doz142_1_oz141_1,Doz142_1_oz142_0,Noz142_1_ob4,Noz142_1_ob33,T,hm⟩
    unfold m_impl_readAgent_A2 at hm
    refine blk_hit (then_n ?_)
    refine wp_seq<|wp_rl rfl<|RL.y rfl (Y.loadN (cs:=[.int .i64 z142.kind,.int .i64 z142.level,.int .i64 z142.value,uz142_0,uz142_1]) s11_2x (by kernel_rfl) (cells5 (eqC (blkCell Bz142 (i:=0) rfl)) (eqC (blkCell Bz142 (i:=1) rfl)) (eqC (blkCell Bz142 (i:=2) rfl)) (eqC (blkCell Bz142 (i:=3) rfl)) (eqC (blkCell Bz142 (i:=4) rfl)))) ?_
    obtain ⟨A144,c145,rfl⟩:=OwF.form Guz142_0
    have qbA144:=OwF.bound Guz142_0
    obtain ⟨A146,c147,rfl⟩:=OwF.form Guz142_1
    have qbA146:=OwF.bound Guz142_1
    refine RL.store (v:=.agg #[.int .i64 z142.kind,.int .i64 z142.level,.int .i64 z142.value,.slice A144 z142.data.length c145,.slice A146 z142.ports.length c147]) (cs':=#[.int .i64 z142.kind,.int .i64 z142.level,.int .i64 z142.value,.slice A144 z142.data.length c145,.slice A146 z142.ports.length c147]) rfl s2_2x rfl Bz141 (by kernel_rfl) (by rfl) (by rfl) (by rfl) (fun w148 B149 ho150=>?_)
    have szw148:=ho150.size
    have Bz142:=Bz142.only_ ho150 (by intro hin; simp at hin; exact Eob33_ob4.symm hin)
    have Guz141_0:=OwF.only Guz141_0 ho150 Noz141_0_ob4
    have Guz141_1:=OwF.only Guz141_1 ho150 Noz141_1_ob4
    have Guz142_0:=OwF.only Guz142_0 ho150 Noz142_0_ob4
    have Guz142_1:=OwF.only Guz142_1 ho150 Noz142_1_ob4
    have T:=T.trans (ho150.below (by first|(simp; done)|(simp; omega)))
    refine RL.y rfl (Y.assign (v:=.bool true) rfl)<|RL.nil<|then_n<|wp_ret ?_
    obtain rfl:=sj hm
    exact (retct (cs:=[.int .i64 z142.kind,.int .i64 z142.level,.int .i64 z142.value,.slice A144 z142.data.length c145,.slice A146 z142.ports.length c147]) rfl rfl s2_2x rfl (by kernel_rfl) (blkCells B149) ⟨⟨_,_,rfl,Guz142_0,Guz142_1,(Ap.dj (Ap.symm (Dj.ap Doz142_1_oz142_0)))⟩,T⟩)
   rintro g f w154 ⟨i151,z152,z153,uz152_0,uz152_1,uz153_0,uz153_1,s2_2,s11_2,s56_2,s57_2,s58_2,nn58_2,Bz152,Guz152_0,Guz152_1,Bz153,Guz153_0,Guz153_1,Doz152_0_o9,Noz152_0_ob4,Noz152_0_ob33,Doz152_1_oz152_0,Doz152_1_o9,Noz152_1_ob4,Noz152_1_ob33,Doz153_0_oz152_0,Doz153_0_oz152_1,Doz153_0_o9,Noz153_0_ob4,Noz153_0_ob33,Doz153_1_oz152_0,Doz153_1_oz152_1,Doz153_1_oz153_0,Doz153_1_o9,Noz153_1_ob4,Noz153_1_ob33,G8,T,hm⟩
   rcases g with _|g
   ·simp only [m_impl_readAgent_L2] at hm; cases hm
   obtain ⟨rec2,hrec2,hm⟩ :∃z,z=m_impl_readAgent_L2 y5 K2 g∧m_impl_readAgent_B2 y5 z K2 i151 z152 z153=some r:=⟨_,rfl,hm⟩
   unfold m_impl_readAgent_B2 at hm
   refine wp_seq<|wp_rs rfl<|RQ.y rfl (Y.binI (v:=.bool (decide (i151 < (((y5.length - 1):Nat):Int)))) s58_2 s57_2 rfl)<|RQ.nil<|then_n<|wp_seq ?_
   rcases bcases (decide (i151 < (((y5.length - 1):Nat):Int))) with c155|c155
   ·replace hm:=cF c155 hm
    have pc155:=of_decide_eq_false c155
    refine cond_f rfl (vb rfl c155)<|wp_exit ?_
    exact (then_x (then_x (hit_x ⟨_,rfl,⟨z152,z153,(uz152_0),(uz152_1),(uz153_0),(uz153_1),s2_2,s11_2,Bz152,Guz152_0,Guz152_1,Bz153,Guz153_0,Guz153_1,(ap_ne (ne_ap Noz152_0_ob4)),(ap_ne (ne_ap Noz152_0_ob33)),(Ap.dj (Dj.ap Doz152_1_oz152_0)),(ap_ne (ne_ap Noz152_1_ob4)),(ap_ne (ne_ap Noz152_1_ob33)),(Ap.dj (Dj.ap Doz153_0_oz152_0)),(Ap.dj (Dj.ap Doz153_0_oz152_1)),(ap_ne (ne_ap Noz153_0_ob4)),(ap_ne (ne_ap Noz153_0_ob33)),(Ap.dj (Dj.ap Doz153_1_oz152_0)),(Ap.dj (Dj.ap Doz153_1_oz152_1)),(Ap.dj (Dj.ap Doz153_1_oz153_0)),(ap_ne (ne_ap Noz153_1_ob4)),(ap_ne (ne_ap Noz153_1_ob33)),T,(by rw [hK2] at hm; exact hm)⟩⟩)))
   replace hm:=cT c155 hm
   have pc155:=of_decide_eq_true c155
   refine cond_t rfl (vb rfl c155)<|wp_skip<|then_n<|wp_seq<|wp_block<|wp_seq<|wp_rs rfl ?_
   have ⟨h156,r157⟩:=(OwF.view fS G8 (l:=1) hk138 eA140)
   obtain ⟨x158,hx161,hm⟩:=bnd hm
   obtain ⟨k159,hk162,hl163,hx161⟩:=getI_some hx161
   have hl165:k159 < (y5.length - 1):=by have:=h156.len; omega
   obtain ⟨b166,o167,rfl,hbb166⟩:=h156.addr (by omega)
   obtain ⟨cs160,hRcs160,hc164⟩:=h156.el hx161
   have hScs160:=hRcs160
   obtain rfl:=hRcs160
   refine RQ.y rfl (Y.indexAddr (m:=k159) (sz:=1) s56_2 s58_2 hk162 hl165 (by kernel_rfl))<|RQ.y rfl (Y.load (v:=.string x158) rfl (by kernel_rfl) (eqC (hc164 0 _ rfl)))<|RQ.y rfl (Y.assign (v:=.string x158) rfl)<|RQ.nil<|then_n<|wp_seq<|wp_rl rfl<|RL.y rfl (Y.move (v:=.string x158) rfl) ?_
   obtain ⟨y168,e169,hm⟩:=bnd hm
   refine RL.call rfl (am2 rfl rfl) (by kernel_rfl) ((c_m_impl_readNumbers x158 (ByteArray.mk #[46]) _ e169  _ (WR.below hW T) ).mono ?_)
   rintro _ w173 ⟨⟨v170,rfl,G171⟩,hb174⟩
   refine ⟨_,rfl,?_⟩
   have szw173:=hb174.size
   have T0w173:=T.size
   have Zo172_ob4:=ap_ne (Ap.new (OwF.flo G171) (one_hi Bz152.lt))
   have Zo172_ob33:=ap_ne (Ap.new (OwF.flo G171) (one_hi Bz153.lt))
   have Zo172_o9:=Ap.dj (Ap.new (OwF.flo G171) (OwF.fhi G8))
   have Zo172_oz152_0:=Ap.dj (Ap.new (OwF.flo G171) (OwF.fhi Guz152_0))
   have Zo172_oz152_1:=Ap.dj (Ap.new (OwF.flo G171) (OwF.fhi Guz152_1))
   have Zo172_oz153_0:=Ap.dj (Ap.new (OwF.flo G171) (OwF.fhi Guz153_0))
   have Zo172_oz153_1:=Ap.dj (Ap.new (OwF.flo G171) (OwF.fhi Guz153_1))
   have Bz152:=blkT Bz152 hb174
   have Bz153:=blkT Bz153 hb174
   have G8:=OwF.below G8 hb174
   have Guz152_0:=OwF.below Guz152_0 hb174
   have Guz152_1:=OwF.below Guz152_1 hb174
   have Guz153_0:=OwF.below Guz153_0 hb174
   have Guz153_1:=OwF.below Guz153_1 hb174
   have T:=Tt T hb174
   replace G171:=OwF.mono G171 T0w173
   refine RL.y rfl (Y.move (v:=.tuple #[v170,.bool y168.2]) rfl)<|RL.y rfl (Y.extract (i:=0) rfl rfl)<|RL.y rfl (Y.extract (i:=1) rfl rfl)<|RL.y rfl (Y.assign (v:=v170) rfl)<|RL.y rfl (Y.assign (v:=.bool y168.2) rfl)<|RL.nil<|then_n<|wp_seq<|wp_seq<|wp_rs rfl<|RQ.y rfl (Y.move (v:=.bool y168.2) rfl)<|RQ.y rfl (Y.not (b':=(!y168.2)) rfl rfl)<|RQ.y rfl (Y.move (v:=.bool (!y168.2)) rfl) ?_
   rcases bcases y168.2 with c175|c175
   ·replace hm:=cF c175 hm
    iterate 3 refine RQ.skip (wantN (dj:=69) rfl (vbn rfl c175 rfl) rfl) ?_
    refine RQ.y rfl (Y.pick (b:=true) (v:=.bool true) (vbn rfl c175 rfl) rfl)<|RQ.nil<|then_n<|cond_t rfl rfl<|wp_seq<|wp_rl rfl<|RL.y rfl (Y.build0 (cells:=#[.int .i64 0,.int .i64 0,.int .i64 0,.slice none 0 0,.slice none 0 0])  (by kernel_rfl) (by kernel_rfl)) ?_
    refine RL.store (v:=.agg #[.int .i64 0,.int .i64 0,.int .i64 0,.slice none 0 0,.slice none 0 0]) (cs':=#[.int .i64 0,.int .i64 0,.int .i64 0,.slice none 0 0,.slice none 0 0]) rfl s2_2 rfl Bz152 (by kernel_rfl) (by rfl) (by rfl) (by rfl) (fun w176 B177 ho178=>?_)
    have szw176:=ho178.size
    have Bz153:=Bz153.only_ ho178 (by intro hin; simp at hin; exact Eob33_ob4.symm hin)
    have G8:=OwF.only G8 ho178 Zo9_ob4
    have Guz152_0:=OwF.only Guz152_0 ho178 Noz152_0_ob4
    have Guz152_1:=OwF.only Guz152_1 ho178 Noz152_1_ob4
    have Guz153_0:=OwF.only Guz153_0 ho178 Noz153_0_ob4
    have Guz153_1:=OwF.only Guz153_1 ho178 Noz153_1_ob4
    have G171:=OwF.only G171 ho178 Zo172_ob4
    have T:=T.trans (ho178.below (by first|(simp; done)|(simp; omega)))
    refine RL.y rfl (Y.assign (v:=.bool false) rfl)<|RL.nil<|then_n<|wp_ret ?_
    obtain rfl:=sj hm
    exact (then_r (blk_r (then_r (then_r (hit_r (blk_r (then_r (retct (cs:=[.int .i64 0,.int .i64 0,.int .i64 0,.slice none 0 0,.slice none 0 0]) rfl rfl s2_2 rfl (by kernel_rfl) (blkCells B177) ⟨⟨_,_,rfl,OwF.nil,OwF.nil,Dj.nil⟩,T⟩))))))))
   replace hm:=cT c175 hm
   refine RQ.y (wantT (dj:=69) rfl (vbn rfl c175 rfl)) (Y.move (v:=v170) rfl) ?_
   obtain ⟨A179,c180,rfl⟩:=OwF.form G171
   have qbA179:=OwF.bound G171
   refine RQ.y (wantT (dj:=69) rfl (vbn rfl c175 rfl)) (Y.len (by kernel_rfl) rfl)<|RQ.y (wantT (dj:=69) rfl (vbn rfl c175 rfl)) (Y.binI (v:=.bool ((y168.1.length:Int) != 2)) rfl rfl rfl)<|RQ.y rfl (Y.pick (b:=false) (v:=.bool ((y168.1.length:Int) != 2)) (vbn rfl c175 rfl) rfl)<|RQ.nil<|then_n ?_
   rcases bcases ((y168.1.length:Int) != 2) with c181|c181
   ·replace hm:=cF c181 hm
    refine cond_f rfl (vb rfl c181)<|wp_skip<|then_n ?_
    refine wp_rgx (fun w'=>Blk w' w28.heap.size 49 #[.int .i64 z153.kind,.int .i64 z153.level,.int .i64 z153.value,uz153_0,uz153_1]) (fun w'=>Below w.heap.size w w'∧OwF 2 encI 1 w' w.heap.size (.slice A179 y168.1.length c180) y168.1) 12 (.q 0 (.e 1 (.q 2 (.q 3 (.q 4 (.q 5 (.q 6 (.q 7 (.q 8 (.a 9 (.a 10 (.q 11 (.a 12 .nil))))))))))))) (by kernel_rfl) (by kernel_rfl) (fun w182 hb183 szw182=>?_)
    have Bz152:=blkT Bz152 hb183
    have Bz153:=blkT Bz153 hb183
    have G8:=OwF.below G8 hb183
    have Guz152_0:=OwF.below Guz152_0 hb183
    have Guz152_1:=OwF.below Guz152_1 hb183
    have Guz153_0:=OwF.below Guz153_0 hb183
    have Guz153_1:=OwF.below Guz153_1 hb183
    have G171:=OwF.below G171 hb183
    have T:=Tt T hb183
    refine ⟨⟨Bz153,⟨T,G171⟩⟩,?_⟩
    refine RX.y rfl rfl (Y.fieldAddr (off:=4) s11_2 (by kernel_rfl))<|RX.e rfl rfl (Y.load (v:=uz153_1) rfl (by kernel_rfl) (fun w' hS=>(blkCell hS.1 (i:=4) rfl)))<|RX.y rfl rfl (Y.move (v:=.slice A179 y168.1.length c180) rfl) ?_
    obtain ⟨x184,hx186,hm⟩:=bnd hm
    obtain ⟨k185,hk187,hl188,hx186⟩:=getI_some hx186
    obtain ⟨b189,rfl⟩:=OwF.addr0 G171 (by omega)
    refine RX.y rfl rfl (Y.indexAddr (m:=k185) (sz:=1) rfl rfl hk187 hl188 (by kernel_rfl))<|RX.y rfl rfl (Y.load (v:=.int .i64 x184) rfl (by kernel_rfl) (fun w' hS=>(OwF.cell fI hS.2 hx186 (j:=0) rfl)))<|RX.y rfl rfl (Y.move (v:=.slice (some ⟨b189,0,none⟩) y168.1.length c180) rfl) ?_
    obtain ⟨x190,hx192,hm⟩:=bnd hm
    obtain ⟨k191,hk193,hl194,hx192⟩:=getI_some hx192
    refine RX.y rfl rfl (Y.indexAddr (m:=k191) (sz:=1) rfl rfl hk193 hl194 (by kernel_rfl))<|RX.y rfl rfl (Y.load (v:=.int .i64 x190) rfl (by kernel_rfl) (fun w' hS=>(OwF.cell fI hS.2 hx192 (j:=0) rfl)))<|RX.y rfl rfl (Y.build2 (cells:=#[.int .i64 x184,.int .i64 x190]) rfl rfl (by kernel_rfl) (by kernel_rfl))<|RX.act rfl rfl ?_
    refine RL.bslice (e:=61) (cells:=#[.int .i64 x184,.int .i64 x190]) rfl (pm1 rfl) (by kernel_rfl) (fun w195 B196 hb197 szw195=>?_)
    have ZB196:w.heap.size≤w182.heap.size:=T.size
    have No198_ob4:=litNe (n:=1) (c:=1) Bz152.lt
    have No198_ob33:=litNe (n:=1) (c:=1) Bz153.lt
    have Do198_o9:=Dj.new (v:=.slice (some ⟨w182.heap.size,0,none⟩) 1 1) litGe (OwF.hi G8)
    have Do198_oz152_0:=Dj.new (v:=.slice (some ⟨w182.heap.size,0,none⟩) 1 1) litGe (OwF.hi Guz152_0)
    have Do198_oz152_1:=Dj.new (v:=.slice (some ⟨w182.heap.size,0,none⟩) 1 1) litGe (OwF.hi Guz152_1)
    have Do198_oz153_0:=Dj.new (v:=.slice (some ⟨w182.heap.size,0,none⟩) 1 1) litGe (OwF.hi Guz153_0)
    have Do198_oz153_1:=Dj.new (v:=.slice (some ⟨w182.heap.size,0,none⟩) 1 1) litGe (OwF.hi Guz153_1)
    have Do198_o172:=Dj.new (v:=.slice (some ⟨w182.heap.size,0,none⟩) 1 1) litGe (OwF.hi G171)
    have Bz152:=blkT Bz152 hb197
    have Bz153:=blkT Bz153 hb197
    have G8:=OwF.below G8 hb197
    have Guz152_0:=OwF.below Guz152_0 hb197
    have Guz152_1:=OwF.below Guz152_1 hb197
    have Guz153_0:=OwF.below Guz153_0 hb197
    have Guz153_1:=OwF.below Guz153_1 hb197
    have G171:=OwF.below G171 hb197
    have T:=Tt T hb197
    have G199:=OwF.lit (enc:=encPort) (sz:=2) (xs:=[(⟨x184,x190⟩:DPort)]) B196 ZB196 rfl rfl rfl rfl
    refine RL.nil ⟨⟨Bz153,⟨T,G171⟩⟩,?_⟩
    refine RX.act rfl rfl ?_
    obtain ⟨_,m201,hm⟩:=bnd hm
    have hk202:=mustP_some m201
    refine RL.append fPort app_impl_Port rfl rfl rfl Guz153_1 (OwF.arg fPort G199) T.size hk202 (fun v203 w204 G205 hgr206 hbl207 hnb208=>?_)
    have szw204:=hbl207.size
    have No209_ob4:=ne_app hnb208 Noz153_1_ob4 Bz152.lt
    have No209_ob33:=ne_app hnb208 Noz153_1_ob33 Bz153.lt
    have Do209_o9:=Dj.app Doz153_1_o9 hnb208 (OwF.hi G8)
    have Do209_oz152_0:=Dj.app Doz153_1_oz152_0 hnb208 (OwF.hi Guz152_0)
    have Do209_oz152_1:=Dj.app Doz153_1_oz152_1 hnb208 (OwF.hi Guz152_1)
    have Do209_oz153_0:=Dj.app Doz153_1_oz153_0 hnb208 (OwF.hi Guz153_0)
    have Do209_o172:=Dj.app (Dj.symm Zo172_oz153_1) hnb208 (OwF.hi G171)
    have Bz152:=Blk.kept Bz152 hgr206 Noz153_1_ob4
    have Bz153:=Blk.kept Bz153 hgr206 Noz153_1_ob33
    have G8:=OwF.keptD G8 hgr206 (Dj.symm Doz153_1_o9)
    have Guz152_0:=OwF.keptD Guz152_0 hgr206 (Dj.symm Doz153_1_oz152_0)
    have Guz152_1:=OwF.keptD Guz152_1 hgr206 (Dj.symm Doz153_1_oz152_1)
    have Guz153_0:=OwF.keptD Guz153_0 hgr206 (Dj.symm Doz153_1_oz153_0)
    have G171:=OwF.keptD G171 hgr206 Zo172_oz153_1
    have T:=T.trans hbl207
    refine RL.nil ⟨⟨Bz153,⟨T,G171⟩⟩,?_⟩
    refine RX.y rfl rfl (Y.fieldAddr (off:=4) s11_2 (by kernel_rfl))<|RX.actk rfl rfl ?_
    obtain ⟨A210,c211,rfl⟩:=OwF.form G205
    have qbA210:=OwF.bound G205
    refine RL.store (v:=.slice A210 ((z153.ports ++ [(⟨x184,x190⟩:DPort)]).length) c211) (cs':=#[.int .i64 z153.kind,.int .i64 z153.level,.int .i64 z153.value,uz153_0,.slice A210 ((z153.ports ++ [(⟨x184,x190⟩:DPort)]).length) c211]) rfl rfl rfl Bz153 (by kernel_rfl) (by rfl) (by rfl) (by rfl) (fun w212 B213 ho214=>?_)
    have szw212:=ho214.size
    have Bz152:=Bz152.only_ ho214 (by intro hin; simp at hin; exact Eob33_ob4 hin)
    have G8:=OwF.only G8 ho214 No9_ob33
    have Guz152_0:=OwF.only Guz152_0 ho214 Noz152_0_ob33
    have Guz152_1:=OwF.only Guz152_1 ho214 Noz152_1_ob33
    have Guz153_0:=OwF.only Guz153_0 ho214 Noz153_0_ob33
    have G171:=OwF.only G171 ho214 Zo172_ob33
    have G205:=OwF.only G205 ho214 No209_ob33
    have T:=T.trans (ho214.below (by first|(simp; done)|(simp; omega)))
    refine RL.nil ⟨⟨T,G171⟩,?_⟩
    refine RX.nil_ ?_
    refine blk_n (then_n ?_)
    refine wp_rs rfl<|RQ.y rfl (Y.binI s58_2 rfl (binI_add (m:=i151) (by omega)))<|RQ.y rfl (Y.move (v:=.int .i64 (i151+1)) rfl)<|RQ.nil ?_
    exact (then_n ⟨g,_,Nat.lt_succ_self _,rfl,⟨(i151+1),z152,(⟨z153.kind,z153.level,z153.value,z153.data,(z153.ports ++ [(⟨x184,x190⟩:DPort)])⟩:DAgent),(uz152_0),(uz152_1),(uz153_0),(.slice A210 ((z153.ports ++ [(⟨x184,x190⟩:DPort)]).length) c211),s2_2,s11_2,s56_2,s57_2,rfl,(by omega),Bz152,Guz152_0,Guz152_1,B213,Guz153_0,G205,(Ap.dj (Dj.ap Doz152_0_o9)),(ap_ne (ne_ap Noz152_0_ob4)),(ap_ne (ne_ap Noz152_0_ob33)),(Ap.dj (Dj.ap Doz152_1_oz152_0)),(Ap.dj (Dj.ap Doz152_1_o9)),(ap_ne (ne_ap Noz152_1_ob4)),(ap_ne (ne_ap Noz152_1_ob33)),(Ap.dj (Dj.ap Doz153_0_oz152_0)),(Ap.dj (Dj.ap Doz153_0_oz152_1)),(Ap.dj (Dj.ap Doz153_0_o9)),(ap_ne (ne_ap Noz153_0_ob4)),(ap_ne (ne_ap Noz153_0_ob33)),(Ap.dj (Dj.ap Do209_oz152_0)),(Ap.dj (Dj.ap Do209_oz152_1)),(Ap.dj (Dj.ap Do209_oz153_0)),(Ap.dj (Dj.ap Do209_o9)),(ap_ne (ne_ap No209_ob4)),(ap_ne (ne_ap No209_ob33)),G8,T,(by rw [← hrec2]; exact hm)⟩⟩)
   replace hm:=cT c181 hm
   refine cond_t rfl (vb rfl c181)<|wp_seq<|wp_rl rfl<|RL.y rfl (Y.build0 (cells:=#[.int .i64 0,.int .i64 0,.int .i64 0,.slice none 0 0,.slice none 0 0])  (by kernel_rfl) (by kernel_rfl)) ?_
   refine RL.store (v:=.agg #[.int .i64 0,.int .i64 0,.int .i64 0,.slice none 0 0,.slice none 0 0]) (cs':=#[.int .i64 0,.int .i64 0,.int .i64 0,.slice none 0 0,.slice none 0 0]) rfl s2_2 rfl Bz152 (by kernel_rfl) (by rfl) (by rfl) (by rfl) (fun w215 B216 ho217=>?_)
   have szw215:=ho217.size
   have Bz153:=Bz153.only_ ho217 (by intro hin; simp at hin; exact Eob33_ob4.symm hin)
   have G8:=OwF.only G8 ho217 Zo9_ob4
   have Guz152_0:=OwF.only Guz152_0 ho217 Noz152_0_ob4
   have Guz152_1:=OwF.only Guz152_1 ho217 Noz152_1_ob4
   have Guz153_0:=OwF.only Guz153_0 ho217 Noz153_0_ob4
   have Guz153_1:=OwF.only Guz153_1 ho217 Noz153_1_ob4
   have G171:=OwF.only G171 ho217 Zo172_ob4
   have T:=T.trans (ho217.below (by first|(simp; done)|(simp; omega)))
   refine RL.y rfl (Y.assign (v:=.bool false) rfl)<|RL.nil<|then_n<|wp_ret ?_
   obtain rfl:=sj hm
   exact (then_r (blk_r (then_r (then_r (hit_r (blk_r (then_r (retct (cs:=[.int .i64 0,.int .i64 0,.int .i64 0,.slice none 0 0,.slice none 0 0]) rfl rfl s2_2 rfl (by kernel_rfl) (blkCells B216) ⟨⟨_,_,rfl,OwF.nil,OwF.nil,Dj.nil⟩,T⟩))))))))
  replace hm:=cT c37 hm
  refine cond_t rfl (vb rfl c37)<|wp_seq<|wp_rb rfl<|RQ.y rfl (Y.move (v:=.string y24.2.1) rfl) ?_
  obtain ⟨y219,e220,hm⟩:=bnd hm
  refine RQ.call rfl (am1 rfl) (by kernel_rfl) (v:=.tuple #[.int .i64 y219.1,.bool y219.2]) (bel (K:=fun _=>True) fun w' hb'=>(c_m_impl_ReadDecimal y24.2.1 _ e220  w' (WR.below hW (Tt T hb')) ))<|RQ.y rfl (Y.move (v:=.tuple #[.int .i64 y219.1,.bool y219.2]) rfl)<|RQ.y rfl (Y.extract (i:=0) rfl rfl)<|RQ.y rfl (Y.extract (i:=1) rfl rfl)<|RQ.y rfl (Y.assign (v:=.int .i64 y219.1) rfl)<|RQ.y rfl (Y.assign (v:=.bool y219.2) rfl)<|RQ.nil ?_
  intro w221 hb222
  have szw221:=hb222.size
  have B2:=blkT B2 hb222
  have B35:=blkT B35 hb222
  have G8:=OwF.below G8 hb222
  have T:=Tt T hb222
  refine then_n<|wp_seq<|wp_seq<|wp_rs rfl<|RQ.y rfl (Y.move (v:=.bool y219.2) rfl)<|RQ.y rfl (Y.not (b':=(!y219.2)) rfl rfl)<|RQ.nil<|then_n ?_
  rcases bcases y219.2 with c223|c223
  ·replace hm:=cF c223 hm
   refine cond_t rfl (vbn rfl c223 rfl)<|wp_seq<|wp_rl rfl<|RL.y rfl (Y.build0 (cells:=#[.int .i64 0,.int .i64 0,.int .i64 0,.slice none 0 0,.slice none 0 0])  (by kernel_rfl) (by kernel_rfl)) ?_
   refine RL.store (v:=.agg #[.int .i64 0,.int .i64 0,.int .i64 0,.slice none 0 0,.slice none 0 0]) (cs':=#[.int .i64 0,.int .i64 0,.int .i64 0,.slice none 0 0,.slice none 0 0]) rfl rfl rfl B2 (by kernel_rfl) (by rfl) (by rfl) (by rfl) (fun w224 B225 ho226=>?_)
   have szw224:=ho226.size
   have B35:=B35.only_ ho226 (by intro hin; simp at hin; exact Eob33_ob4.symm hin)
   have G8:=OwF.only G8 ho226 Zo9_ob4
   have T:=T.trans (ho226.below (by first|(simp; done)|(simp; omega)))
   refine RL.y rfl (Y.assign (v:=.bool false) rfl)<|RL.nil<|then_n<|wp_ret ?_
   obtain rfl:=sj hm
   exact (then_r (then_r (retct (cs:=[.int .i64 0,.int .i64 0,.int .i64 0,.slice none 0 0,.slice none 0 0]) rfl rfl rfl rfl (by kernel_rfl) (blkCells B225) ⟨⟨_,_,rfl,OwF.nil,OwF.nil,Dj.nil⟩,T⟩)))
  replace hm:=cT c223 hm
  refine cond_f rfl (vbn rfl c223 rfl)<|wp_skip<|then_n<|wp_rl rfl<|RL.y rfl (Y.move (v:=.int .i64 y219.1) rfl)<|RL.y rfl (Y.fieldAddr (off:=1) rfl (by kernel_rfl)) ?_
  refine RL.store (v:=.int .i64 y219.1) (cs':=#[.int .i64 (kindNamed y24.1),.int .i64 y219.1,.int .i64 0,.slice none 0 0,.slice none 0 0]) rfl rfl rfl B35 (by kernel_rfl) (by rfl) (by rfl) (by rfl) (fun w227 B228 ho229=>?_)
  have szw227:=ho229.size
  have B2:=B2.only_ ho229 (by intro hin; simp at hin; exact Eob33_ob4 hin)
  have G8:=OwF.only G8 ho229 No9_ob33
  have T:=T.trans (ho229.below (by first|(simp; done)|(simp; omega)))
  refine RL.nil<|then_n<|wp_seq<|wp_seq<|wp_rl rfl<|RL.y rfl (Y.move (v:=.bool y20.2.2) rfl)<|RL.y rfl (Y.move (v:=.bool y20.2.2) rfl) ?_
  rcases bcases y20.2.2 with c230|c230
  ·replace hm:=cF c230 hm
   iterate 3 refine RL.skip (wantN (dj:=49) rfl (vb rfl c230) rfl) ?_
   refine RL.y rfl (Y.pick (b:=false) (v:=.bool false) (vb rfl c230) rfl)<|RL.nil<|then_n<|cond_f rfl rfl<|wp_skip<|then_n<|wp_seq<|wp_seq<|wp_rs rfl<|RQ.y rfl (Y.move (v:=.slice (some ⟨b19,0,none⟩) y5.length c13) rfl) ?_
   obtain ⟨_,m231,hm⟩:=bnd hm
   have hk232:=mustP_some m231
   obtain ⟨Av233,eA234⟩ :∃Av,(if c13=1 then (some ⟨b19,0,none⟩) else ((some ⟨b19,0,none⟩):Option Addr).map (·.add (1 * 1)))=Av:=⟨_,rfl⟩
   refine RQ.y rfl (Y.sliceL (l:=1) (sz:=1) rfl rfl rfl hk232 (by kernel_rfl) eA234)<|RQ.y rfl (Y.len (by kernel_rfl) rfl)<|RQ.y rfl (Y.move (v:=.int .i64 0) rfl)<|RQ.nil<|then_n<|wp_block ?_
   obtain ⟨K3,hK3,hm⟩ :∃K,K=m_impl_readAgent_A3∧m_impl_readAgent_L3 y5 K (((y5.length - 1):Nat)+1) 0 (⟨0,0,0,[],[]⟩:DAgent) (⟨(kindNamed y24.1),y219.1,0,[],[]⟩:DAgent)=some r:=⟨_,rfl,hm⟩
   refine wp_loopX (fun g f w'=>∃(i245:Int) (z246:DAgent) (z247:DAgent) (uz246_0:Value) (uz246_1:Value) (uz247_0:Value) (uz247_1:Value),f 2=.pointer (some ⟨w.heap.size,0,none⟩)∧f 11=.pointer (some ⟨w28.heap.size,0,none⟩)∧f 56=.slice Av233 (y5.length - 1) (c13 - 1)∧f 57=.int .i64 (((y5.length - 1):Nat):Int)∧f 58=.int .i64 i245∧0≤i245∧Blk w' w.heap.size 49 #[.int .i64 z246.kind,.int .i64 z246.level,.int .i64 z246.value,uz246_0,uz246_1]∧OwF 2 encI 1 w' w.heap.size uz246_0 z246.data∧OwF 61 encPort 2 w' w.heap.size uz246_1 z246.ports∧Blk w' w28.heap.size 49 #[.int .i64 z247.kind,.int .i64 z247.level,.int .i64 z247.value,uz247_0,uz247_1]∧OwF 2 encI 1 w' w.heap.size uz247_0 z247.data∧OwF 61 encPort 2 w' w.heap.size uz247_1 z247.ports∧Dj uz246_0 (.slice (some ⟨b19,0,none⟩) y5.length c13)∧Value.ownBlock uz246_0 ≠ some w.heap.size∧Value.ownBlock uz246_0 ≠ some w28.heap.size∧Dj uz246_1 uz246_0∧Dj uz246_1 (.slice (some ⟨b19,0,none⟩) y5.length c13)∧Value.ownBlock uz246_1 ≠ some w.heap.size∧Value.ownBlock uz246_1 ≠ some w28.heap.size∧Dj uz247_0 uz246_0∧Dj uz247_0 uz246_1∧Dj uz247_0 (.slice (some ⟨b19,0,none⟩) y5.length c13)∧Value.ownBlock uz247_0 ≠ some w.heap.size∧Value.ownBlock uz247_0 ≠ some w28.heap.size∧Dj uz247_1 uz246_0∧Dj uz247_1 uz246_1∧Dj uz247_1 uz247_0∧Dj uz247_1 (.slice (some ⟨b19,0,none⟩) y5.length c13)∧Value.ownBlock uz247_1 ≠ some w.heap.size∧Value.ownBlock uz247_1 ≠ some w28.heap.size∧OwF 9 encS 1 w' w.heap.size (.slice (some ⟨b19,0,none⟩) y5.length c13) y5∧Below w.heap.size w w'∧m_impl_readAgent_L3 y5 K3 g i245 z246 z247=some r) 0 (fun f w'=>∃(z235:DAgent) (z236:DAgent) (uz235_0:Value) (uz235_1:Value) (uz236_0:Value) (uz236_1:Value),f 2=.pointer (some ⟨w.heap.size,0,none⟩)∧f 11=.pointer (some ⟨w28.heap.size,0,none⟩)∧Blk w' w.heap.size 49 #[.int .i64 z235.kind,.int .i64 z235.level,.int .i64 z235.value,uz235_0,uz235_1]∧OwF 2 encI 1 w' w.heap.size uz235_0 z235.data∧OwF 61 encPort 2 w' w.heap.size uz235_1 z235.ports∧Blk w' w28.heap.size 49 #[.int .i64 z236.kind,.int .i64 z236.level,.int .i64 z236.value,uz236_0,uz236_1]∧OwF 2 encI 1 w' w.heap.size uz236_0 z236.data∧OwF 61 encPort 2 w' w.heap.size uz236_1 z236.ports∧Value.ownBlock uz235_0 ≠ some w.heap.size∧Value.ownBlock uz235_0 ≠ some w28.heap.size∧Dj uz235_1 uz235_0∧Value.ownBlock uz235_1 ≠ some w.heap.size∧Value.ownBlock uz235_1 ≠ some w28.heap.size∧Dj uz236_0 uz235_0∧Dj uz236_0 uz235_1∧Value.ownBlock uz236_0 ≠ some w.heap.size∧Value.ownBlock uz236_0 ≠ some w28.heap.size∧Dj uz236_1 uz235_0∧Dj uz236_1 uz235_1∧Dj uz236_1 uz236_0∧Value.ownBlock uz236_1 ≠ some w.heap.size∧Value.ownBlock uz236_1 ≠ some w28.heap.size∧Below w.heap.size w w'∧m_impl_readAgent_A3 z235 z236=some r) (((y5.length - 1):Nat)+1) ⟨0,(⟨0,0,0,[],[]⟩:DAgent),(⟨(kindNamed y24.1),y219.1,0,[],[]⟩:DAgent),(.slice none 0 0),(.slice none 0 0),(.slice none 0 0),(.slice none 0 0),rfl,rfl,rfl,rfl,rfl,(by omega),B2,OwF.nil,OwF.nil,B228,OwF.nil,OwF.nil,Dj.nil,nilNe (b:=w.heap.size),nilNe (b:=w28.heap.size),Dj.nil,Dj.nil,nilNe (b:=w.heap.size),nilNe (b:=w28.heap.size),Dj.nil,Dj.nil,Dj.nil,nilNe (b:=w.heap.size),nilNe (b:=w28.heap.size),Dj.nil,Dj.nil,Dj.nil,Dj.nil,nilNe (b:=w.heap.size),nilNe (b:=w28.heap.size),G8,T,hm⟩ ?_ ?_
   ·rintro f w237 ⟨z235,z236,uz235_0,uz235_1,uz236_0,uz236_1,s2_3x,s11_3x,Bz235,Guz235_0,Guz235_1,Bz236,Guz236_0,Guz236_1,Noz235_0_ob4,Noz235_0_ob33,Doz235_1_oz235_0,Noz235_1_ob4,Noz235_1_ob33,Doz236_0_oz235_0,Doz236_0_oz235_1,Noz236_0_ob4,Noz236_0_ob33,Doz236_1_oz235_0,Doz236_1_oz235_1,Doz236_1_oz236_0,Noz236_1_ob4,Noz236_1_ob33,T,hm⟩
    unfold m_impl_readAgent_A3 at hm
    refine blk_hit (then_n ?_)
    refine wp_seq<|wp_rl rfl<|RL.y rfl (Y.loadN (cs:=[.int .i64 z236.kind,.int .i64 z236.level,.int .i64 z236.value,uz236_0,uz236_1]) s11_3x (by kernel_rfl) (cells5 (eqC (blkCell Bz236 (i:=0) rfl)) (eqC (blkCell Bz236 (i:=1) rfl)) (eqC (blkCell Bz236 (i:=2) rfl)) (eqC (blkCell Bz236 (i:=3) rfl)) (eqC (blkCell Bz236 (i:=4) rfl)))) ?_
    obtain ⟨A238,c239,rfl⟩:=OwF.form Guz236_0
    have qbA238:=OwF.bound Guz236_0
    obtain ⟨A240,c241,rfl⟩:=OwF.form Guz236_1
    have qbA240:=OwF.bound Guz236_1
    refine RL.store (v:=.agg #[.int .i64 z236.kind,.int .i64 z236.level,.int .i64 z236.value,.slice A238 z236.data.length c239,.slice A240 z236.ports.length c241]) (cs':=#[.int .i64 z236.kind,.int .i64 z236.level,.int .i64 z236.value,.slice A238 z236.data.length c239,.slice A240 z236.ports.length c241]) rfl s2_3x rfl Bz235 (by kernel_rfl) (by rfl) (by rfl) (by rfl) (fun w242 B243 ho244=>?_)
    have szw242:=ho244.size
    have Bz236:=Bz236.only_ ho244 (by intro hin; simp at hin; exact Eob33_ob4.symm hin)
    have Guz235_0:=OwF.only Guz235_0 ho244 Noz235_0_ob4
    have Guz235_1:=OwF.only Guz235_1 ho244 Noz235_1_ob4
    have Guz236_0:=OwF.only Guz236_0 ho244 Noz236_0_ob4
    have Guz236_1:=OwF.only Guz236_1 ho244 Noz236_1_ob4
    have T:=T.trans (ho244.below (by first|(simp; done)|(simp; omega)))
    refine RL.y rfl (Y.assign (v:=.bool true) rfl)<|RL.nil<|then_n<|wp_ret ?_
    obtain rfl:=sj hm
    exact (retct (cs:=[.int .i64 z236.kind,.int .i64 z236.level,.int .i64 z236.value,.slice A238 z236.data.length c239,.slice A240 z236.ports.length c241]) rfl rfl s2_3x rfl (by kernel_rfl) (blkCells B243) ⟨⟨_,_,rfl,Guz236_0,Guz236_1,(Ap.dj (Ap.symm (Dj.ap Doz236_1_oz236_0)))⟩,T⟩)
   rintro g f w248 ⟨i245,z246,z247,uz246_0,uz246_1,uz247_0,uz247_1,s2_3,s11_3,s56_3,s57_3,s58_3,nn58_3,Bz246,Guz246_0,Guz246_1,Bz247,Guz247_0,Guz247_1,Doz246_0_o9,Noz246_0_ob4,Noz246_0_ob33,Doz246_1_oz246_0,Doz246_1_o9,Noz246_1_ob4,Noz246_1_ob33,Doz247_0_oz246_0,Doz247_0_oz246_1,Doz247_0_o9,Noz247_0_ob4,Noz247_0_ob33,Doz247_1_oz246_0,Doz247_1_oz246_1,Doz247_1_oz247_0,Doz247_1_o9,Noz247_1_ob4,Noz247_1_ob33,G8,T,hm⟩
   rcases g with _|g
   ·simp only [m_impl_readAgent_L3] at hm; cases hm
   obtain ⟨rec3,hrec3,hm⟩ :∃z,z=m_impl_readAgent_L3 y5 K3 g∧m_impl_readAgent_B3 y5 z K3 i245 z246 z247=some r:=⟨_,rfl,hm⟩
   unfold m_impl_readAgent_B3 at hm
   refine wp_seq<|wp_rs rfl<|RQ.y rfl (Y.binI (v:=.bool (decide (i245 < (((y5.length - 1):Nat):Int)))) s58_3 s57_3 rfl)<|RQ.nil<|then_n<|wp_seq ?_
   rcases bcases (decide (i245 < (((y5.length - 1):Nat):Int))) with c249|c249
   ·replace hm:=cF c249 hm
    have pc249:=of_decide_eq_false c249
    refine cond_f rfl (vb rfl c249)<|wp_exit ?_
    exact (then_x (then_x (hit_x ⟨_,rfl,⟨z246,z247,(uz246_0),(uz246_1),(uz247_0),(uz247_1),s2_3,s11_3,Bz246,Guz246_0,Guz246_1,Bz247,Guz247_0,Guz247_1,(ap_ne (ne_ap Noz246_0_ob4)),(ap_ne (ne_ap Noz246_0_ob33)),(Ap.dj (Dj.ap Doz246_1_oz246_0)),(ap_ne (ne_ap Noz246_1_ob4)),(ap_ne (ne_ap Noz246_1_ob33)),(Ap.dj (Dj.ap Doz247_0_oz246_0)),(Ap.dj (Dj.ap Doz247_0_oz246_1)),(ap_ne (ne_ap Noz247_0_ob4)),(ap_ne (ne_ap Noz247_0_ob33)),(Ap.dj (Dj.ap Doz247_1_oz246_0)),(Ap.dj (Dj.ap Doz247_1_oz246_1)),(Ap.dj (Dj.ap Doz247_1_oz247_0)),(ap_ne (ne_ap Noz247_1_ob4)),(ap_ne (ne_ap Noz247_1_ob33)),T,(by rw [hK3] at hm; exact hm)⟩⟩)))
   replace hm:=cT c249 hm
   have pc249:=of_decide_eq_true c249
   refine cond_t rfl (vb rfl c249)<|wp_skip<|then_n<|wp_seq<|wp_block<|wp_seq<|wp_rs rfl ?_
   have ⟨h250,r251⟩:=(OwF.view fS G8 (l:=1) hk232 eA234)
   obtain ⟨x252,hx255,hm⟩:=bnd hm
   obtain ⟨k253,hk256,hl257,hx255⟩:=getI_some hx255
   have hl259:k253 < (y5.length - 1):=by have:=h250.len; omega
   obtain ⟨b260,o261,rfl,hbb260⟩:=h250.addr (by omega)
   obtain ⟨cs254,hRcs254,hc258⟩:=h250.el hx255
   have hScs254:=hRcs254
   obtain rfl:=hRcs254
   refine RQ.y rfl (Y.indexAddr (m:=k253) (sz:=1) s56_3 s58_3 hk256 hl259 (by kernel_rfl))<|RQ.y rfl (Y.load (v:=.string x252) rfl (by kernel_rfl) (eqC (hc258 0 _ rfl)))<|RQ.y rfl (Y.assign (v:=.string x252) rfl)<|RQ.nil<|then_n<|wp_seq<|wp_rl rfl<|RL.y rfl (Y.move (v:=.string x252) rfl) ?_
   obtain ⟨y262,e263,hm⟩:=bnd hm
   refine RL.call rfl (am2 rfl rfl) (by kernel_rfl) ((c_m_impl_readNumbers x252 (ByteArray.mk #[46]) _ e263  _ (WR.below hW T) ).mono ?_)
   rintro _ w267 ⟨⟨v264,rfl,G265⟩,hb268⟩
   refine ⟨_,rfl,?_⟩
   have szw267:=hb268.size
   have T0w267:=T.size
   have Zo266_ob4:=ap_ne (Ap.new (OwF.flo G265) (one_hi Bz246.lt))
   have Zo266_ob33:=ap_ne (Ap.new (OwF.flo G265) (one_hi Bz247.lt))
   have Zo266_o9:=Ap.dj (Ap.new (OwF.flo G265) (OwF.fhi G8))
   have Zo266_oz246_0:=Ap.dj (Ap.new (OwF.flo G265) (OwF.fhi Guz246_0))
   have Zo266_oz246_1:=Ap.dj (Ap.new (OwF.flo G265) (OwF.fhi Guz246_1))
   have Zo266_oz247_0:=Ap.dj (Ap.new (OwF.flo G265) (OwF.fhi Guz247_0))
   have Zo266_oz247_1:=Ap.dj (Ap.new (OwF.flo G265) (OwF.fhi Guz247_1))
   have Bz246:=blkT Bz246 hb268
   have Bz247:=blkT Bz247 hb268
   have G8:=OwF.below G8 hb268
   have Guz246_0:=OwF.below Guz246_0 hb268
   have Guz246_1:=OwF.below Guz246_1 hb268
   have Guz247_0:=OwF.below Guz247_0 hb268
   have Guz247_1:=OwF.below Guz247_1 hb268
   have T:=Tt T hb268
   replace G265:=OwF.mono G265 T0w267
   refine RL.y rfl (Y.move (v:=.tuple #[v264,.bool y262.2]) rfl)<|RL.y rfl (Y.extract (i:=0) rfl rfl)<|RL.y rfl (Y.extract (i:=1) rfl rfl)<|RL.y rfl (Y.assign (v:=v264) rfl)<|RL.y rfl (Y.assign (v:=.bool y262.2) rfl)<|RL.nil<|then_n<|wp_seq<|wp_seq<|wp_rs rfl<|RQ.y rfl (Y.move (v:=.bool y262.2) rfl)<|RQ.y rfl (Y.not (b':=(!y262.2)) rfl rfl)<|RQ.y rfl (Y.move (v:=.bool (!y262.2)) rfl) ?_
   rcases bcases y262.2 with c269|c269
   ·replace hm:=cF c269 hm
    iterate 3 refine RQ.skip (wantN (dj:=69) rfl (vbn rfl c269 rfl) rfl) ?_
    refine RQ.y rfl (Y.pick (b:=true) (v:=.bool true) (vbn rfl c269 rfl) rfl)<|RQ.nil<|then_n<|cond_t rfl rfl<|wp_seq<|wp_rl rfl<|RL.y rfl (Y.build0 (cells:=#[.int .i64 0,.int .i64 0,.int .i64 0,.slice none 0 0,.slice none 0 0])  (by kernel_rfl) (by kernel_rfl)) ?_
    refine RL.store (v:=.agg #[.int .i64 0,.int .i64 0,.int .i64 0,.slice none 0 0,.slice none 0 0]) (cs':=#[.int .i64 0,.int .i64 0,.int .i64 0,.slice none 0 0,.slice none 0 0]) rfl s2_3 rfl Bz246 (by kernel_rfl) (by rfl) (by rfl) (by rfl) (fun w270 B271 ho272=>?_)
    have szw270:=ho272.size
    have Bz247:=Bz247.only_ ho272 (by intro hin; simp at hin; exact Eob33_ob4.symm hin)
    have G8:=OwF.only G8 ho272 Zo9_ob4
    have Guz246_0:=OwF.only Guz246_0 ho272 Noz246_0_ob4
    have Guz246_1:=OwF.only Guz246_1 ho272 Noz246_1_ob4
    have Guz247_0:=OwF.only Guz247_0 ho272 Noz247_0_ob4
    have Guz247_1:=OwF.only Guz247_1 ho272 Noz247_1_ob4
    have G265:=OwF.only G265 ho272 Zo266_ob4
    have T:=T.trans (ho272.below (by first|(simp; done)|(simp; omega)))
    refine RL.y rfl (Y.assign (v:=.bool false) rfl)<|RL.nil<|then_n<|wp_ret ?_
    obtain rfl:=sj hm
    exact (then_r (blk_r (then_r (then_r (hit_r (blk_r (then_r (retct (cs:=[.int .i64 0,.int .i64 0,.int .i64 0,.slice none 0 0,.slice none 0 0]) rfl rfl s2_3 rfl (by kernel_rfl) (blkCells B271) ⟨⟨_,_,rfl,OwF.nil,OwF.nil,Dj.nil⟩,T⟩))))))))
   replace hm:=cT c269 hm
   refine RQ.y (wantT (dj:=69) rfl (vbn rfl c269 rfl)) (Y.move (v:=v264) rfl) ?_
   obtain ⟨A273,c274,rfl⟩:=OwF.form G265
   have qbA273:=OwF.bound G265
   refine RQ.y (wantT (dj:=69) rfl (vbn rfl c269 rfl)) (Y.len (by kernel_rfl) rfl)<|RQ.y (wantT (dj:=69) rfl (vbn rfl c269 rfl)) (Y.binI (v:=.bool ((y262.1.length:Int) != 2)) rfl rfl rfl)<|RQ.y rfl (Y.pick (b:=false) (v:=.bool ((y262.1.length:Int) != 2)) (vbn rfl c269 rfl) rfl)<|RQ.nil<|then_n ?_
   rcases bcases ((y262.1.length:Int) != 2) with c275|c275
   ·replace hm:=cF c275 hm
    refine cond_f rfl (vb rfl c275)<|wp_skip<|then_n ?_
    refine wp_rgx (fun w'=>Blk w' w28.heap.size 49 #[.int .i64 z247.kind,.int .i64 z247.level,.int .i64 z247.value,uz247_0,uz247_1]) (fun w'=>Below w.heap.size w w'∧OwF 2 encI 1 w' w.heap.size (.slice A273 y262.1.length c274) y262.1) 12 (.q 0 (.e 1 (.q 2 (.q 3 (.q 4 (.q 5 (.q 6 (.q 7 (.q 8 (.a 9 (.a 10 (.q 11 (.a 12 .nil))))))))))))) (by kernel_rfl) (by kernel_rfl) (fun w276 hb277 szw276=>?_)
    have Bz246:=blkT Bz246 hb277
    have Bz247:=blkT Bz247 hb277
    have G8:=OwF.below G8 hb277
    have Guz246_0:=OwF.below Guz246_0 hb277
    have Guz246_1:=OwF.below Guz246_1 hb277
    have Guz247_0:=OwF.below Guz247_0 hb277
    have Guz247_1:=OwF.below Guz247_1 hb277
    have G265:=OwF.below G265 hb277
    have T:=Tt T hb277
    refine ⟨⟨Bz247,⟨T,G265⟩⟩,?_⟩
    refine RX.y rfl rfl (Y.fieldAddr (off:=4) s11_3 (by kernel_rfl))<|RX.e rfl rfl (Y.load (v:=uz247_1) rfl (by kernel_rfl) (fun w' hS=>(blkCell hS.1 (i:=4) rfl)))<|RX.y rfl rfl (Y.move (v:=.slice A273 y262.1.length c274) rfl) ?_
    obtain ⟨x278,hx280,hm⟩:=bnd hm
    obtain ⟨k279,hk281,hl282,hx280⟩:=getI_some hx280
    obtain ⟨b283,rfl⟩:=OwF.addr0 G265 (by omega)
    refine RX.y rfl rfl (Y.indexAddr (m:=k279) (sz:=1) rfl rfl hk281 hl282 (by kernel_rfl))<|RX.y rfl rfl (Y.load (v:=.int .i64 x278) rfl (by kernel_rfl) (fun w' hS=>(OwF.cell fI hS.2 hx280 (j:=0) rfl)))<|RX.y rfl rfl (Y.move (v:=.slice (some ⟨b283,0,none⟩) y262.1.length c274) rfl) ?_
    obtain ⟨x284,hx286,hm⟩:=bnd hm
    obtain ⟨k285,hk287,hl288,hx286⟩:=getI_some hx286
    refine RX.y rfl rfl (Y.indexAddr (m:=k285) (sz:=1) rfl rfl hk287 hl288 (by kernel_rfl))<|RX.y rfl rfl (Y.load (v:=.int .i64 x284) rfl (by kernel_rfl) (fun w' hS=>(OwF.cell fI hS.2 hx286 (j:=0) rfl)))<|RX.y rfl rfl (Y.build2 (cells:=#[.int .i64 x278,.int .i64 x284]) rfl rfl (by kernel_rfl) (by kernel_rfl))<|RX.act rfl rfl ?_
    refine RL.bslice (e:=61) (cells:=#[.int .i64 x278,.int .i64 x284]) rfl (pm1 rfl) (by kernel_rfl) (fun w289 B290 hb291 szw289=>?_)
    have ZB290:w.heap.size≤w276.heap.size:=T.size
    have No292_ob4:=litNe (n:=1) (c:=1) Bz246.lt
    have No292_ob33:=litNe (n:=1) (c:=1) Bz247.lt
    have Do292_o9:=Dj.new (v:=.slice (some ⟨w276.heap.size,0,none⟩) 1 1) litGe (OwF.hi G8)
    have Do292_oz246_0:=Dj.new (v:=.slice (some ⟨w276.heap.size,0,none⟩) 1 1) litGe (OwF.hi Guz246_0)
    have Do292_oz246_1:=Dj.new (v:=.slice (some ⟨w276.heap.size,0,none⟩) 1 1) litGe (OwF.hi Guz246_1)
    have Do292_oz247_0:=Dj.new (v:=.slice (some ⟨w276.heap.size,0,none⟩) 1 1) litGe (OwF.hi Guz247_0)
    have Do292_oz247_1:=Dj.new (v:=.slice (some ⟨w276.heap.size,0,none⟩) 1 1) litGe (OwF.hi Guz247_1)
    have Do292_o266:=Dj.new (v:=.slice (some ⟨w276.heap.size,0,none⟩) 1 1) litGe (OwF.hi G265)
    have Bz246:=blkT Bz246 hb291
    have Bz247:=blkT Bz247 hb291
    have G8:=OwF.below G8 hb291
    have Guz246_0:=OwF.below Guz246_0 hb291
    have Guz246_1:=OwF.below Guz246_1 hb291
    have Guz247_0:=OwF.below Guz247_0 hb291
    have Guz247_1:=OwF.below Guz247_1 hb291
    have G265:=OwF.below G265 hb291
    have T:=Tt T hb291
    have G293:=OwF.lit (enc:=encPort) (sz:=2) (xs:=[(⟨x278,x284⟩:DPort)]) B290 ZB290 rfl rfl rfl rfl
    refine RL.nil ⟨⟨Bz247,⟨T,G265⟩⟩,?_⟩
    refine RX.act rfl rfl ?_
    obtain ⟨_,m295,hm⟩:=bnd hm
    have hk296:=mustP_some m295
    refine RL.append fPort app_impl_Port rfl rfl rfl Guz247_1 (OwF.arg fPort G293) T.size hk296 (fun v297 w298 G299 hgr300 hbl301 hnb302=>?_)
    have szw298:=hbl301.size
    have No303_ob4:=ne_app hnb302 Noz247_1_ob4 Bz246.lt
    have No303_ob33:=ne_app hnb302 Noz247_1_ob33 Bz247.lt
    have Do303_o9:=Dj.app Doz247_1_o9 hnb302 (OwF.hi G8)
    have Do303_oz246_0:=Dj.app Doz247_1_oz246_0 hnb302 (OwF.hi Guz246_0)
    have Do303_oz246_1:=Dj.app Doz247_1_oz246_1 hnb302 (OwF.hi Guz246_1)
    have Do303_oz247_0:=Dj.app Doz247_1_oz247_0 hnb302 (OwF.hi Guz247_0)
    have Do303_o266:=Dj.app (Dj.symm Zo266_oz247_1) hnb302 (OwF.hi G265)
    have Bz246:=Blk.kept Bz246 hgr300 Noz247_1_ob4
    have Bz247:=Blk.kept Bz247 hgr300 Noz247_1_ob33
    have G8:=OwF.keptD G8 hgr300 (Dj.symm Doz247_1_o9)
    have Guz246_0:=OwF.keptD Guz246_0 hgr300 (Dj.symm Doz247_1_oz246_0)
    have Guz246_1:=OwF.keptD Guz246_1 hgr300 (Dj.symm Doz247_1_oz246_1)
    have Guz247_0:=OwF.keptD Guz247_0 hgr300 (Dj.symm Doz247_1_oz247_0)
    have G265:=OwF.keptD G265 hgr300 Zo266_oz247_1
    have T:=T.trans hbl301
    refine RL.nil ⟨⟨Bz247,⟨T,G265⟩⟩,?_⟩
    refine RX.y rfl rfl (Y.fieldAddr (off:=4) s11_3 (by kernel_rfl))<|RX.actk rfl rfl ?_
    obtain ⟨A304,c305,rfl⟩:=OwF.form G299
    have qbA304:=OwF.bound G299
    refine RL.store (v:=.slice A304 ((z247.ports ++ [(⟨x278,x284⟩:DPort)]).length) c305) (cs':=#[.int .i64 z247.kind,.int .i64 z247.level,.int .i64 z247.value,uz247_0,.slice A304 ((z247.ports ++ [(⟨x278,x284⟩:DPort)]).length) c305]) rfl rfl rfl Bz247 (by kernel_rfl) (by rfl) (by rfl) (by rfl) (fun w306 B307 ho308=>?_)
    have szw306:=ho308.size
    have Bz246:=Bz246.only_ ho308 (by intro hin; simp at hin; exact Eob33_ob4 hin)
    have G8:=OwF.only G8 ho308 No9_ob33
    have Guz246_0:=OwF.only Guz246_0 ho308 Noz246_0_ob33
    have Guz246_1:=OwF.only Guz246_1 ho308 Noz246_1_ob33
    have Guz247_0:=OwF.only Guz247_0 ho308 Noz247_0_ob33
    have G265:=OwF.only G265 ho308 Zo266_ob33
    have G299:=OwF.only G299 ho308 No303_ob33
    have T:=T.trans (ho308.below (by first|(simp; done)|(simp; omega)))
    refine RL.nil ⟨⟨T,G265⟩,?_⟩
    refine RX.nil_ ?_
    refine blk_n (then_n ?_)
    refine wp_rs rfl<|RQ.y rfl (Y.binI s58_3 rfl (binI_add (m:=i245) (by omega)))<|RQ.y rfl (Y.move (v:=.int .i64 (i245+1)) rfl)<|RQ.nil ?_
    exact (then_n ⟨g,_,Nat.lt_succ_self _,rfl,⟨(i245+1),z246,(⟨z247.kind,z247.level,z247.value,z247.data,(z247.ports ++ [(⟨x278,x284⟩:DPort)])⟩:DAgent),(uz246_0),(uz246_1),(uz247_0),(.slice A304 ((z247.ports ++ [(⟨x278,x284⟩:DPort)]).length) c305),s2_3,s11_3,s56_3,s57_3,rfl,(by omega),Bz246,Guz246_0,Guz246_1,B307,Guz247_0,G299,(Ap.dj (Dj.ap Doz246_0_o9)),(ap_ne (ne_ap Noz246_0_ob4)),(ap_ne (ne_ap Noz246_0_ob33)),(Ap.dj (Dj.ap Doz246_1_oz246_0)),(Ap.dj (Dj.ap Doz246_1_o9)),(ap_ne (ne_ap Noz246_1_ob4)),(ap_ne (ne_ap Noz246_1_ob33)),(Ap.dj (Dj.ap Doz247_0_oz246_0)),(Ap.dj (Dj.ap Doz247_0_oz246_1)),(Ap.dj (Dj.ap Doz247_0_o9)),(ap_ne (ne_ap Noz247_0_ob4)),(ap_ne (ne_ap Noz247_0_ob33)),(Ap.dj (Dj.ap Do303_oz246_0)),(Ap.dj (Dj.ap Do303_oz246_1)),(Ap.dj (Dj.ap Do303_oz247_0)),(Ap.dj (Dj.ap Do303_o9)),(ap_ne (ne_ap No303_ob4)),(ap_ne (ne_ap No303_ob33)),G8,T,(by rw [← hrec3]; exact hm)⟩⟩)
   replace hm:=cT c275 hm
   refine cond_t rfl (vb rfl c275)<|wp_seq<|wp_rl rfl<|RL.y rfl (Y.build0 (cells:=#[.int .i64 0,.int .i64 0,.int .i64 0,.slice none 0 0,.slice none 0 0])  (by kernel_rfl) (by kernel_rfl)) ?_
   refine RL.store (v:=.agg #[.int .i64 0,.int .i64 0,.int .i64 0,.slice none 0 0,.slice none 0 0]) (cs':=#[.int .i64 0,.int .i64 0,.int .i64 0,.slice none 0 0,.slice none 0 0]) rfl s2_3 rfl Bz246 (by kernel_rfl) (by rfl) (by rfl) (by rfl) (fun w309 B310 ho311=>?_)
   have szw309:=ho311.size
   have Bz247:=Bz247.only_ ho311 (by intro hin; simp at hin; exact Eob33_ob4.symm hin)
   have G8:=OwF.only G8 ho311 Zo9_ob4
   have Guz246_0:=OwF.only Guz246_0 ho311 Noz246_0_ob4
   have Guz246_1:=OwF.only Guz246_1 ho311 Noz246_1_ob4
   have Guz247_0:=OwF.only Guz247_0 ho311 Noz247_0_ob4
   have Guz247_1:=OwF.only Guz247_1 ho311 Noz247_1_ob4
   have G265:=OwF.only G265 ho311 Zo266_ob4
   have T:=T.trans (ho311.below (by first|(simp; done)|(simp; omega)))
   refine RL.y rfl (Y.assign (v:=.bool false) rfl)<|RL.nil<|then_n<|wp_ret ?_
   obtain rfl:=sj hm
   exact (then_r (blk_r (then_r (then_r (hit_r (blk_r (then_r (retct (cs:=[.int .i64 0,.int .i64 0,.int .i64 0,.slice none 0 0,.slice none 0 0]) rfl rfl s2_3 rfl (by kernel_rfl) (blkCells B310) ⟨⟨_,_,rfl,OwF.nil,OwF.nil,Dj.nil⟩,T⟩))))))))
  replace hm:=cT c230 hm
  refine RL.y (wantT (dj:=49) rfl (vb rfl c230)) (Y.move (v:=.string y20.2.1) rfl) ?_
  obtain ⟨y313,e314,hm⟩:=bnd hm
  refine RL.call (wantT (dj:=49) rfl (vb rfl c230)) (am2 rfl rfl) (by kernel_rfl) ((c_m_impl_readContents (⟨(kindNamed y24.1),y219.1,0,[],[]⟩:DAgent) y20.2.1 _ e314  w w227 T hW  _ B228 GB31).mono ?_)
  rintro _ w321 ⟨⟨v315,v318,rfl,G316,G319,Ro317_o320,B324⟩,K322,hb323⟩
  refine ⟨_,rfl,?_⟩
  have szw321:=K322.size
  have T0w321:=T.size
  have Zo317_ob4:=ap_ne (Ap.new (OwF.flo G316) (one_hi B2.lt))
  have Zo317_ob33:=ap_ne (Ap.new (OwF.flo G316) (one_hi B228.lt))
  have Zo317_o9:=Ap.dj (Ap.new (OwF.flo G316) (OwF.fhi G8))
  have Zo320_ob4:=ap_ne (Ap.new (OwF.flo G319) (one_hi B2.lt))
  have Zo320_ob33:=ap_ne (Ap.new (OwF.flo G319) (one_hi B228.lt))
  have Zo320_o9:=Ap.dj (Ap.new (OwF.flo G319) (OwF.fhi G8))
  have B2:=Blk.keepV B2 K322 (cellNe Eob33_ob4) (cellNe Eob33_ob4)
  have G8:=OwF.keepV G8 K322 (cellDj No9_ob33) (cellDj No9_ob33)
  have T:=hb323
  replace G316:=OwF.mono G316 T0w321
  replace G319:=OwF.mono G319 T0w321
  refine RL.y (wantT (dj:=49) rfl (vb rfl c230)) (Y.not (b':=(!y313.1)) rfl rfl)<|RL.y rfl (Y.pick (b:=true) (v:=.bool (!y313.1)) (vb rfl c230) rfl)<|RL.nil<|then_n ?_
  rcases bcases y313.1 with c325|c325
  ·replace hm:=cF c325 hm
   refine cond_t rfl (vbn rfl c325 rfl)<|wp_seq<|wp_rl rfl<|RL.y rfl (Y.build0 (cells:=#[.int .i64 0,.int .i64 0,.int .i64 0,.slice none 0 0,.slice none 0 0])  (by kernel_rfl) (by kernel_rfl)) ?_
   refine RL.store (v:=.agg #[.int .i64 0,.int .i64 0,.int .i64 0,.slice none 0 0,.slice none 0 0]) (cs':=#[.int .i64 0,.int .i64 0,.int .i64 0,.slice none 0 0,.slice none 0 0]) rfl rfl rfl B2 (by kernel_rfl) (by rfl) (by rfl) (by rfl) (fun w326 B327 ho328=>?_)
   have szw326:=ho328.size
   have B324:=B324.only_ ho328 (by intro hin; simp at hin; exact Eob33_ob4.symm hin)
   have G8:=OwF.only G8 ho328 Zo9_ob4
   have G316:=OwF.only G316 ho328 Zo317_ob4
   have G319:=OwF.only G319 ho328 Zo320_ob4
   have T:=T.trans (ho328.below (by first|(simp; done)|(simp; omega)))
   refine RL.y rfl (Y.assign (v:=.bool false) rfl)<|RL.nil<|then_n<|wp_ret ?_
   obtain rfl:=sj hm
   exact (then_r (retct (cs:=[.int .i64 0,.int .i64 0,.int .i64 0,.slice none 0 0,.slice none 0 0]) rfl rfl rfl rfl (by kernel_rfl) (blkCells B327) ⟨⟨_,_,rfl,OwF.nil,OwF.nil,Dj.nil⟩,T⟩))
  replace hm:=cT c325 hm
  refine cond_f rfl (vbn rfl c325 rfl)<|wp_skip<|then_n<|wp_seq<|wp_seq<|wp_rs rfl<|RQ.y rfl (Y.move (v:=.slice (some ⟨b19,0,none⟩) y5.length c13) rfl) ?_
  obtain ⟨_,m329,hm⟩:=bnd hm
  have hk330:=mustP_some m329
  obtain ⟨Av331,eA332⟩ :∃Av,(if c13=1 then (some ⟨b19,0,none⟩) else ((some ⟨b19,0,none⟩):Option Addr).map (·.add (1 * 1)))=Av:=⟨_,rfl⟩
  refine RQ.y rfl (Y.sliceL (l:=1) (sz:=1) rfl rfl rfl hk330 (by kernel_rfl) eA332)<|RQ.y rfl (Y.len (by kernel_rfl) rfl)<|RQ.y rfl (Y.move (v:=.int .i64 0) rfl)<|RQ.nil<|then_n<|wp_block ?_
  obtain ⟨K4,hK4,hm⟩ :∃K,K=m_impl_readAgent_A4∧m_impl_readAgent_L4 y5 K (((y5.length - 1):Nat)+1) 0 (⟨0,0,0,[],[]⟩:DAgent) (⟨y313.2.kind,y313.2.level,y313.2.value,y313.2.data,y313.2.ports⟩:DAgent)=some r:=⟨_,rfl,hm⟩
  refine wp_loopX (fun g f w'=>∃(i343:Int) (z344:DAgent) (z345:DAgent) (uz344_0:Value) (uz344_1:Value) (uz345_0:Value) (uz345_1:Value),f 2=.pointer (some ⟨w.heap.size,0,none⟩)∧f 11=.pointer (some ⟨w28.heap.size,0,none⟩)∧f 56=.slice Av331 (y5.length - 1) (c13 - 1)∧f 57=.int .i64 (((y5.length - 1):Nat):Int)∧f 58=.int .i64 i343∧0≤i343∧Blk w' w.heap.size 49 #[.int .i64 z344.kind,.int .i64 z344.level,.int .i64 z344.value,uz344_0,uz344_1]∧OwF 2 encI 1 w' w.heap.size uz344_0 z344.data∧OwF 61 encPort 2 w' w.heap.size uz344_1 z344.ports∧Blk w' w28.heap.size 49 #[.int .i64 z345.kind,.int .i64 z345.level,.int .i64 z345.value,uz345_0,uz345_1]∧OwF 2 encI 1 w' w.heap.size uz345_0 z345.data∧OwF 61 encPort 2 w' w.heap.size uz345_1 z345.ports∧Dj uz344_0 (.slice (some ⟨b19,0,none⟩) y5.length c13)∧Value.ownBlock uz344_0 ≠ some w.heap.size∧Value.ownBlock uz344_0 ≠ some w28.heap.size∧Dj uz344_1 uz344_0∧Dj uz344_1 (.slice (some ⟨b19,0,none⟩) y5.length c13)∧Value.ownBlock uz344_1 ≠ some w.heap.size∧Value.ownBlock uz344_1 ≠ some w28.heap.size∧Dj uz345_0 uz344_0∧Dj uz345_0 uz344_1∧Dj uz345_0 (.slice (some ⟨b19,0,none⟩) y5.length c13)∧Value.ownBlock uz345_0 ≠ some w.heap.size∧Value.ownBlock uz345_0 ≠ some w28.heap.size∧Dj uz345_1 uz344_0∧Dj uz345_1 uz344_1∧Dj uz345_1 uz345_0∧Dj uz345_1 (.slice (some ⟨b19,0,none⟩) y5.length c13)∧Value.ownBlock uz345_1 ≠ some w.heap.size∧Value.ownBlock uz345_1 ≠ some w28.heap.size∧OwF 9 encS 1 w' w.heap.size (.slice (some ⟨b19,0,none⟩) y5.length c13) y5∧Below w.heap.size w w'∧m_impl_readAgent_L4 y5 K4 g i343 z344 z345=some r) 0 (fun f w'=>∃(z333:DAgent) (z334:DAgent) (uz333_0:Value) (uz333_1:Value) (uz334_0:Value) (uz334_1:Value),f 2=.pointer (some ⟨w.heap.size,0,none⟩)∧f 11=.pointer (some ⟨w28.heap.size,0,none⟩)∧Blk w' w.heap.size 49 #[.int .i64 z333.kind,.int .i64 z333.level,.int .i64 z333.value,uz333_0,uz333_1]∧OwF 2 encI 1 w' w.heap.size uz333_0 z333.data∧OwF 61 encPort 2 w' w.heap.size uz333_1 z333.ports∧Blk w' w28.heap.size 49 #[.int .i64 z334.kind,.int .i64 z334.level,.int .i64 z334.value,uz334_0,uz334_1]∧OwF 2 encI 1 w' w.heap.size uz334_0 z334.data∧OwF 61 encPort 2 w' w.heap.size uz334_1 z334.ports∧Value.ownBlock uz333_0 ≠ some w.heap.size∧Value.ownBlock uz333_0 ≠ some w28.heap.size∧Dj uz333_1 uz333_0∧Value.ownBlock uz333_1 ≠ some w.heap.size∧Value.ownBlock uz333_1 ≠ some w28.heap.size∧Dj uz334_0 uz333_0∧Dj uz334_0 uz333_1∧Value.ownBlock uz334_0 ≠ some w.heap.size∧Value.ownBlock uz334_0 ≠ some w28.heap.size∧Dj uz334_1 uz333_0∧Dj uz334_1 uz333_1∧Dj uz334_1 uz334_0∧Value.ownBlock uz334_1 ≠ some w.heap.size∧Value.ownBlock uz334_1 ≠ some w28.heap.size∧Below w.heap.size w w'∧m_impl_readAgent_A4 z333 z334=some r) (((y5.length - 1):Nat)+1) ⟨0,(⟨0,0,0,[],[]⟩:DAgent),(⟨y313.2.kind,y313.2.level,y313.2.value,y313.2.data,y313.2.ports⟩:DAgent),(.slice none 0 0),(.slice none 0 0),(v315),(v318),rfl,rfl,rfl,rfl,rfl,(by omega),B2,OwF.nil,OwF.nil,B324,G316,G319,Dj.nil,nilNe (b:=w.heap.size),nilNe (b:=w28.heap.size),Dj.nil,Dj.nil,nilNe (b:=w.heap.size),nilNe (b:=w28.heap.size),(Dj.symm Dj.nil),(Dj.symm Dj.nil),(Ap.dj (Dj.ap Zo317_o9)),(ap_ne (ne_ap Zo317_ob4)),(ap_ne (ne_ap Zo317_ob33)),(Dj.symm Dj.nil),(Dj.symm Dj.nil),(Ap.dj (Ap.symm (Dj.ap Ro317_o320))),(Ap.dj (Dj.ap Zo320_o9)),(ap_ne (ne_ap Zo320_ob4)),(ap_ne (ne_ap Zo320_ob33)),G8,T,hm⟩ ?_ ?_
  ·rintro f w335 ⟨z333,z334,uz333_0,uz333_1,uz334_0,uz334_1,s2_4x,s11_4x,Bz333,Guz333_0,Guz333_1,Bz334,Guz334_0,Guz334_1,Noz333_0_ob4,Noz333_0_ob33,Doz333_1_oz333_0,Noz333_1_ob4,Noz333_1_ob33,Doz334_0_oz333_0,Doz334_0_oz333_1,Noz334_0_ob4,Noz334_0_ob33,Doz334_1_oz333_0,Doz334_1_oz333_1,Doz334_1_oz334_0,Noz334_1_ob4,Noz334_1_ob33,T,hm⟩
   unfold m_impl_readAgent_A4 at hm
   refine blk_hit (then_n ?_)
   refine wp_seq<|wp_rl rfl<|RL.y rfl (Y.loadN (cs:=[.int .i64 z334.kind,.int .i64 z334.level,.int .i64 z334.value,uz334_0,uz334_1]) s11_4x (by kernel_rfl) (cells5 (eqC (blkCell Bz334 (i:=0) rfl)) (eqC (blkCell Bz334 (i:=1) rfl)) (eqC (blkCell Bz334 (i:=2) rfl)) (eqC (blkCell Bz334 (i:=3) rfl)) (eqC (blkCell Bz334 (i:=4) rfl)))) ?_
   obtain ⟨A336,c337,rfl⟩:=OwF.form Guz334_0
   have qbA336:=OwF.bound Guz334_0
   obtain ⟨A338,c339,rfl⟩:=OwF.form Guz334_1
   have qbA338:=OwF.bound Guz334_1
   refine RL.store (v:=.agg #[.int .i64 z334.kind,.int .i64 z334.level,.int .i64 z334.value,.slice A336 z334.data.length c337,.slice A338 z334.ports.length c339]) (cs':=#[.int .i64 z334.kind,.int .i64 z334.level,.int .i64 z334.value,.slice A336 z334.data.length c337,.slice A338 z334.ports.length c339]) rfl s2_4x rfl Bz333 (by kernel_rfl) (by rfl) (by rfl) (by rfl) (fun w340 B341 ho342=>?_)
   have szw340:=ho342.size
   have Bz334:=Bz334.only_ ho342 (by intro hin; simp at hin; exact Eob33_ob4.symm hin)
   have Guz333_0:=OwF.only Guz333_0 ho342 Noz333_0_ob4
   have Guz333_1:=OwF.only Guz333_1 ho342 Noz333_1_ob4
   have Guz334_0:=OwF.only Guz334_0 ho342 Noz334_0_ob4
   have Guz334_1:=OwF.only Guz334_1 ho342 Noz334_1_ob4
   have T:=T.trans (ho342.below (by first|(simp; done)|(simp; omega)))
   refine RL.y rfl (Y.assign (v:=.bool true) rfl)<|RL.nil<|then_n<|wp_ret ?_
   obtain rfl:=sj hm
   exact (retct (cs:=[.int .i64 z334.kind,.int .i64 z334.level,.int .i64 z334.value,.slice A336 z334.data.length c337,.slice A338 z334.ports.length c339]) rfl rfl s2_4x rfl (by kernel_rfl) (blkCells B341) ⟨⟨_,_,rfl,Guz334_0,Guz334_1,(Ap.dj (Ap.symm (Dj.ap Doz334_1_oz334_0)))⟩,T⟩)
  rintro g f w346 ⟨i343,z344,z345,uz344_0,uz344_1,uz345_0,uz345_1,s2_4,s11_4,s56_4,s57_4,s58_4,nn58_4,Bz344,Guz344_0,Guz344_1,Bz345,Guz345_0,Guz345_1,Doz344_0_o9,Noz344_0_ob4,Noz344_0_ob33,Doz344_1_oz344_0,Doz344_1_o9,Noz344_1_ob4,Noz344_1_ob33,Doz345_0_oz344_0,Doz345_0_oz344_1,Doz345_0_o9,Noz345_0_ob4,Noz345_0_ob33,Doz345_1_oz344_0,Doz345_1_oz344_1,Doz345_1_oz345_0,Doz345_1_o9,Noz345_1_ob4,Noz345_1_ob33,G8,T,hm⟩
  rcases g with _|g
  ·simp only [m_impl_readAgent_L4] at hm; cases hm
  obtain ⟨rec4,hrec4,hm⟩ :∃z,z=m_impl_readAgent_L4 y5 K4 g∧m_impl_readAgent_B4 y5 z K4 i343 z344 z345=some r:=⟨_,rfl,hm⟩
  unfold m_impl_readAgent_B4 at hm
  refine wp_seq<|wp_rs rfl<|RQ.y rfl (Y.binI (v:=.bool (decide (i343 < (((y5.length - 1):Nat):Int)))) s58_4 s57_4 rfl)<|RQ.nil<|then_n<|wp_seq ?_
  rcases bcases (decide (i343 < (((y5.length - 1):Nat):Int))) with c347|c347
  ·replace hm:=cF c347 hm
   have pc347:=of_decide_eq_false c347
   refine cond_f rfl (vb rfl c347)<|wp_exit ?_
   exact (then_x (then_x (hit_x ⟨_,rfl,⟨z344,z345,(uz344_0),(uz344_1),(uz345_0),(uz345_1),s2_4,s11_4,Bz344,Guz344_0,Guz344_1,Bz345,Guz345_0,Guz345_1,(ap_ne (ne_ap Noz344_0_ob4)),(ap_ne (ne_ap Noz344_0_ob33)),(Ap.dj (Dj.ap Doz344_1_oz344_0)),(ap_ne (ne_ap Noz344_1_ob4)),(ap_ne (ne_ap Noz344_1_ob33)),(Ap.dj (Dj.ap Doz345_0_oz344_0)),(Ap.dj (Dj.ap Doz345_0_oz344_1)),(ap_ne (ne_ap Noz345_0_ob4)),(ap_ne (ne_ap Noz345_0_ob33)),(Ap.dj (Dj.ap Doz345_1_oz344_0)),(Ap.dj (Dj.ap Doz345_1_oz344_1)),(Ap.dj (Dj.ap Doz345_1_oz345_0)),(ap_ne (ne_ap Noz345_1_ob4)),(ap_ne (ne_ap Noz345_1_ob33)),T,(by rw [hK4] at hm; exact hm)⟩⟩)))
  replace hm:=cT c347 hm
  have pc347:=of_decide_eq_true c347
  refine cond_t rfl (vb rfl c347)<|wp_skip<|then_n<|wp_seq<|wp_block<|wp_seq<|wp_rs rfl ?_
  have ⟨h348,r349⟩:=(OwF.view fS G8 (l:=1) hk330 eA332)
  obtain ⟨x350,hx353,hm⟩:=bnd hm
  obtain ⟨k351,hk354,hl355,hx353⟩:=getI_some hx353
  have hl357:k351 < (y5.length - 1):=by have:=h348.len; omega
  obtain ⟨b358,o359,rfl,hbb358⟩:=h348.addr (by omega)
  obtain ⟨cs352,hRcs352,hc356⟩:=h348.el hx353
  have hScs352:=hRcs352
  obtain rfl:=hRcs352
  refine RQ.y rfl (Y.indexAddr (m:=k351) (sz:=1) s56_4 s58_4 hk354 hl357 (by kernel_rfl))<|RQ.y rfl (Y.load (v:=.string x350) rfl (by kernel_rfl) (eqC (hc356 0 _ rfl)))<|RQ.y rfl (Y.assign (v:=.string x350) rfl)<|RQ.nil<|then_n<|wp_seq<|wp_rl rfl<|RL.y rfl (Y.move (v:=.string x350) rfl) ?_
  obtain ⟨y360,e361,hm⟩:=bnd hm
  refine RL.call rfl (am2 rfl rfl) (by kernel_rfl) ((c_m_impl_readNumbers x350 (ByteArray.mk #[46]) _ e361  _ (WR.below hW T) ).mono ?_)
  rintro _ w365 ⟨⟨v362,rfl,G363⟩,hb366⟩
  refine ⟨_,rfl,?_⟩
  have szw365:=hb366.size
  have T0w365:=T.size
  have Zo364_ob4:=ap_ne (Ap.new (OwF.flo G363) (one_hi Bz344.lt))
  have Zo364_ob33:=ap_ne (Ap.new (OwF.flo G363) (one_hi Bz345.lt))
  have Zo364_o9:=Ap.dj (Ap.new (OwF.flo G363) (OwF.fhi G8))
  have Zo364_oz344_0:=Ap.dj (Ap.new (OwF.flo G363) (OwF.fhi Guz344_0))
  have Zo364_oz344_1:=Ap.dj (Ap.new (OwF.flo G363) (OwF.fhi Guz344_1))
  have Zo364_oz345_0:=Ap.dj (Ap.new (OwF.flo G363) (OwF.fhi Guz345_0))
  have Zo364_oz345_1:=Ap.dj (Ap.new (OwF.flo G363) (OwF.fhi Guz345_1))
  have Bz344:=blkT Bz344 hb366
  have Bz345:=blkT Bz345 hb366
  have G8:=OwF.below G8 hb366
  have Guz344_0:=OwF.below Guz344_0 hb366
  have Guz344_1:=OwF.below Guz344_1 hb366
  have Guz345_0:=OwF.below Guz345_0 hb366
  have Guz345_1:=OwF.below Guz345_1 hb366
  have T:=Tt T hb366
  replace G363:=OwF.mono G363 T0w365
  refine RL.y rfl (Y.move (v:=.tuple #[v362,.bool y360.2]) rfl)<|RL.y rfl (Y.extract (i:=0) rfl rfl)<|RL.y rfl (Y.extract (i:=1) rfl rfl)<|RL.y rfl (Y.assign (v:=v362) rfl)<|RL.y rfl (Y.assign (v:=.bool y360.2) rfl)<|RL.nil<|then_n<|wp_seq<|wp_seq<|wp_rs rfl<|RQ.y rfl (Y.move (v:=.bool y360.2) rfl)<|RQ.y rfl (Y.not (b':=(!y360.2)) rfl rfl)<|RQ.y rfl (Y.move (v:=.bool (!y360.2)) rfl) ?_
  rcases bcases y360.2 with c367|c367
  ·replace hm:=cF c367 hm
   iterate 3 refine RQ.skip (wantN (dj:=69) rfl (vbn rfl c367 rfl) rfl) ?_
   refine RQ.y rfl (Y.pick (b:=true) (v:=.bool true) (vbn rfl c367 rfl) rfl)<|RQ.nil<|then_n<|cond_t rfl rfl<|wp_seq<|wp_rl rfl<|RL.y rfl (Y.build0 (cells:=#[.int .i64 0,.int .i64 0,.int .i64 0,.slice none 0 0,.slice none 0 0])  (by kernel_rfl) (by kernel_rfl)) ?_
   refine RL.store (v:=.agg #[.int .i64 0,.int .i64 0,.int .i64 0,.slice none 0 0,.slice none 0 0]) (cs':=#[.int .i64 0,.int .i64 0,.int .i64 0,.slice none 0 0,.slice none 0 0]) rfl s2_4 rfl Bz344 (by kernel_rfl) (by rfl) (by rfl) (by rfl) (fun w368 B369 ho370=>?_)
   have szw368:=ho370.size
   have Bz345:=Bz345.only_ ho370 (by intro hin; simp at hin; exact Eob33_ob4.symm hin)
   have G8:=OwF.only G8 ho370 Zo9_ob4
   have Guz344_0:=OwF.only Guz344_0 ho370 Noz344_0_ob4
   have Guz344_1:=OwF.only Guz344_1 ho370 Noz344_1_ob4
   have Guz345_0:=OwF.only Guz345_0 ho370 Noz345_0_ob4
   have Guz345_1:=OwF.only Guz345_1 ho370 Noz345_1_ob4
   have G363:=OwF.only G363 ho370 Zo364_ob4
   have T:=T.trans (ho370.below (by first|(simp; done)|(simp; omega)))
   refine RL.y rfl (Y.assign (v:=.bool false) rfl)<|RL.nil<|then_n<|wp_ret ?_
   obtain rfl:=sj hm
   exact (then_r (blk_r (then_r (then_r (hit_r (blk_r (then_r (retct (cs:=[.int .i64 0,.int .i64 0,.int .i64 0,.slice none 0 0,.slice none 0 0]) rfl rfl s2_4 rfl (by kernel_rfl) (blkCells B369) ⟨⟨_,_,rfl,OwF.nil,OwF.nil,Dj.nil⟩,T⟩))))))))
  replace hm:=cT c367 hm
  refine RQ.y (wantT (dj:=69) rfl (vbn rfl c367 rfl)) (Y.move (v:=v362) rfl) ?_
  obtain ⟨A371,c372,rfl⟩:=OwF.form G363
  have qbA371:=OwF.bound G363
  refine RQ.y (wantT (dj:=69) rfl (vbn rfl c367 rfl)) (Y.len (by kernel_rfl) rfl)<|RQ.y (wantT (dj:=69) rfl (vbn rfl c367 rfl)) (Y.binI (v:=.bool ((y360.1.length:Int) != 2)) rfl rfl rfl)<|RQ.y rfl (Y.pick (b:=false) (v:=.bool ((y360.1.length:Int) != 2)) (vbn rfl c367 rfl) rfl)<|RQ.nil<|then_n ?_
  rcases bcases ((y360.1.length:Int) != 2) with c373|c373
  ·replace hm:=cF c373 hm
   refine cond_f rfl (vb rfl c373)<|wp_skip<|then_n ?_
   refine wp_rgx (fun w'=>Blk w' w28.heap.size 49 #[.int .i64 z345.kind,.int .i64 z345.level,.int .i64 z345.value,uz345_0,uz345_1]) (fun w'=>Below w.heap.size w w'∧OwF 2 encI 1 w' w.heap.size (.slice A371 y360.1.length c372) y360.1) 12 (.q 0 (.e 1 (.q 2 (.q 3 (.q 4 (.q 5 (.q 6 (.q 7 (.q 8 (.a 9 (.a 10 (.q 11 (.a 12 .nil))))))))))))) (by kernel_rfl) (by kernel_rfl) (fun w374 hb375 szw374=>?_)
   have Bz344:=blkT Bz344 hb375
   have Bz345:=blkT Bz345 hb375
   have G8:=OwF.below G8 hb375
   have Guz344_0:=OwF.below Guz344_0 hb375
   have Guz344_1:=OwF.below Guz344_1 hb375
   have Guz345_0:=OwF.below Guz345_0 hb375
   have Guz345_1:=OwF.below Guz345_1 hb375
   have G363:=OwF.below G363 hb375
   have T:=Tt T hb375
   refine ⟨⟨Bz345,⟨T,G363⟩⟩,?_⟩
   refine RX.y rfl rfl (Y.fieldAddr (off:=4) s11_4 (by kernel_rfl))<|RX.e rfl rfl (Y.load (v:=uz345_1) rfl (by kernel_rfl) (fun w' hS=>(blkCell hS.1 (i:=4) rfl)))<|RX.y rfl rfl (Y.move (v:=.slice A371 y360.1.length c372) rfl) ?_
   obtain ⟨x376,hx378,hm⟩:=bnd hm
   obtain ⟨k377,hk379,hl380,hx378⟩:=getI_some hx378
   obtain ⟨b381,rfl⟩:=OwF.addr0 G363 (by omega)
   refine RX.y rfl rfl (Y.indexAddr (m:=k377) (sz:=1) rfl rfl hk379 hl380 (by kernel_rfl))<|RX.y rfl rfl (Y.load (v:=.int .i64 x376) rfl (by kernel_rfl) (fun w' hS=>(OwF.cell fI hS.2 hx378 (j:=0) rfl)))<|RX.y rfl rfl (Y.move (v:=.slice (some ⟨b381,0,none⟩) y360.1.length c372) rfl) ?_
   obtain ⟨x382,hx384,hm⟩:=bnd hm
   obtain ⟨k383,hk385,hl386,hx384⟩:=getI_some hx384
   refine RX.y rfl rfl (Y.indexAddr (m:=k383) (sz:=1) rfl rfl hk385 hl386 (by kernel_rfl))<|RX.y rfl rfl (Y.load (v:=.int .i64 x382) rfl (by kernel_rfl) (fun w' hS=>(OwF.cell fI hS.2 hx384 (j:=0) rfl)))<|RX.y rfl rfl (Y.build2 (cells:=#[.int .i64 x376,.int .i64 x382]) rfl rfl (by kernel_rfl) (by kernel_rfl))<|RX.act rfl rfl ?_
   refine RL.bslice (e:=61) (cells:=#[.int .i64 x376,.int .i64 x382]) rfl (pm1 rfl) (by kernel_rfl) (fun w387 B388 hb389 szw387=>?_)
   have ZB388:w.heap.size≤w374.heap.size:=T.size
   have No390_ob4:=litNe (n:=1) (c:=1) Bz344.lt
   have No390_ob33:=litNe (n:=1) (c:=1) Bz345.lt
   have Do390_o9:=Dj.new (v:=.slice (some ⟨w374.heap.size,0,none⟩) 1 1) litGe (OwF.hi G8)
   have Do390_oz344_0:=Dj.new (v:=.slice (some ⟨w374.heap.size,0,none⟩) 1 1) litGe (OwF.hi Guz344_0)
   have Do390_oz344_1:=Dj.new (v:=.slice (some ⟨w374.heap.size,0,none⟩) 1 1) litGe (OwF.hi Guz344_1)
   have Do390_oz345_0:=Dj.new (v:=.slice (some ⟨w374.heap.size,0,none⟩) 1 1) litGe (OwF.hi Guz345_0)
   have Do390_oz345_1:=Dj.new (v:=.slice (some ⟨w374.heap.size,0,none⟩) 1 1) litGe (OwF.hi Guz345_1)
   have Do390_o364:=Dj.new (v:=.slice (some ⟨w374.heap.size,0,none⟩) 1 1) litGe (OwF.hi G363)
   have Bz344:=blkT Bz344 hb389
   have Bz345:=blkT Bz345 hb389
   have G8:=OwF.below G8 hb389
   have Guz344_0:=OwF.below Guz344_0 hb389
   have Guz344_1:=OwF.below Guz344_1 hb389
   have Guz345_0:=OwF.below Guz345_0 hb389
   have Guz345_1:=OwF.below Guz345_1 hb389
   have G363:=OwF.below G363 hb389
   have T:=Tt T hb389
   have G391:=OwF.lit (enc:=encPort) (sz:=2) (xs:=[(⟨x376,x382⟩:DPort)]) B388 ZB388 rfl rfl rfl rfl
   refine RL.nil ⟨⟨Bz345,⟨T,G363⟩⟩,?_⟩
   refine RX.act rfl rfl ?_
   obtain ⟨_,m393,hm⟩:=bnd hm
   have hk394:=mustP_some m393
   refine RL.append fPort app_impl_Port rfl rfl rfl Guz345_1 (OwF.arg fPort G391) T.size hk394 (fun v395 w396 G397 hgr398 hbl399 hnb400=>?_)
   have szw396:=hbl399.size
   have No401_ob4:=ne_app hnb400 Noz345_1_ob4 Bz344.lt
   have No401_ob33:=ne_app hnb400 Noz345_1_ob33 Bz345.lt
   have Do401_o9:=Dj.app Doz345_1_o9 hnb400 (OwF.hi G8)
   have Do401_oz344_0:=Dj.app Doz345_1_oz344_0 hnb400 (OwF.hi Guz344_0)
   have Do401_oz344_1:=Dj.app Doz345_1_oz344_1 hnb400 (OwF.hi Guz344_1)
   have Do401_oz345_0:=Dj.app Doz345_1_oz345_0 hnb400 (OwF.hi Guz345_0)
   have Do401_o364:=Dj.app (Dj.symm Zo364_oz345_1) hnb400 (OwF.hi G363)
   have Bz344:=Blk.kept Bz344 hgr398 Noz345_1_ob4
   have Bz345:=Blk.kept Bz345 hgr398 Noz345_1_ob33
   have G8:=OwF.keptD G8 hgr398 (Dj.symm Doz345_1_o9)
   have Guz344_0:=OwF.keptD Guz344_0 hgr398 (Dj.symm Doz345_1_oz344_0)
   have Guz344_1:=OwF.keptD Guz344_1 hgr398 (Dj.symm Doz345_1_oz344_1)
   have Guz345_0:=OwF.keptD Guz345_0 hgr398 (Dj.symm Doz345_1_oz345_0)
   have G363:=OwF.keptD G363 hgr398 Zo364_oz345_1
   have T:=T.trans hbl399
   refine RL.nil ⟨⟨Bz345,⟨T,G363⟩⟩,?_⟩
   refine RX.y rfl rfl (Y.fieldAddr (off:=4) s11_4 (by kernel_rfl))<|RX.actk rfl rfl ?_
   obtain ⟨A402,c403,rfl⟩:=OwF.form G397
   have qbA402:=OwF.bound G397
   refine RL.store (v:=.slice A402 ((z345.ports ++ [(⟨x376,x382⟩:DPort)]).length) c403) (cs':=#[.int .i64 z345.kind,.int .i64 z345.level,.int .i64 z345.value,uz345_0,.slice A402 ((z345.ports ++ [(⟨x376,x382⟩:DPort)]).length) c403]) rfl rfl rfl Bz345 (by kernel_rfl) (by rfl) (by rfl) (by rfl) (fun w404 B405 ho406=>?_)
   have szw404:=ho406.size
   have Bz344:=Bz344.only_ ho406 (by intro hin; simp at hin; exact Eob33_ob4 hin)
   have G8:=OwF.only G8 ho406 No9_ob33
   have Guz344_0:=OwF.only Guz344_0 ho406 Noz344_0_ob33
   have Guz344_1:=OwF.only Guz344_1 ho406 Noz344_1_ob33
   have Guz345_0:=OwF.only Guz345_0 ho406 Noz345_0_ob33
   have G363:=OwF.only G363 ho406 Zo364_ob33
   have G397:=OwF.only G397 ho406 No401_ob33
   have T:=T.trans (ho406.below (by first|(simp; done)|(simp; omega)))
   refine RL.nil ⟨⟨T,G363⟩,?_⟩
   refine RX.nil_ ?_
   refine blk_n (then_n ?_)
   refine wp_rs rfl<|RQ.y rfl (Y.binI s58_4 rfl (binI_add (m:=i343) (by omega)))<|RQ.y rfl (Y.move (v:=.int .i64 (i343+1)) rfl)<|RQ.nil ?_
   exact (then_n ⟨g,_,Nat.lt_succ_self _,rfl,⟨(i343+1),z344,(⟨z345.kind,z345.level,z345.value,z345.data,(z345.ports ++ [(⟨x376,x382⟩:DPort)])⟩:DAgent),(uz344_0),(uz344_1),(uz345_0),(.slice A402 ((z345.ports ++ [(⟨x376,x382⟩:DPort)]).length) c403),s2_4,s11_4,s56_4,s57_4,rfl,(by omega),Bz344,Guz344_0,Guz344_1,B405,Guz345_0,G397,(Ap.dj (Dj.ap Doz344_0_o9)),(ap_ne (ne_ap Noz344_0_ob4)),(ap_ne (ne_ap Noz344_0_ob33)),(Ap.dj (Dj.ap Doz344_1_oz344_0)),(Ap.dj (Dj.ap Doz344_1_o9)),(ap_ne (ne_ap Noz344_1_ob4)),(ap_ne (ne_ap Noz344_1_ob33)),(Ap.dj (Dj.ap Doz345_0_oz344_0)),(Ap.dj (Dj.ap Doz345_0_oz344_1)),(Ap.dj (Dj.ap Doz345_0_o9)),(ap_ne (ne_ap Noz345_0_ob4)),(ap_ne (ne_ap Noz345_0_ob33)),(Ap.dj (Dj.ap Do401_oz344_0)),(Ap.dj (Dj.ap Do401_oz344_1)),(Ap.dj (Dj.ap Do401_oz345_0)),(Ap.dj (Dj.ap Do401_o9)),(ap_ne (ne_ap No401_ob4)),(ap_ne (ne_ap No401_ob33)),G8,T,(by rw [← hrec4]; exact hm)⟩⟩)
  replace hm:=cT c373 hm
  refine cond_t rfl (vb rfl c373)<|wp_seq<|wp_rl rfl<|RL.y rfl (Y.build0 (cells:=#[.int .i64 0,.int .i64 0,.int .i64 0,.slice none 0 0,.slice none 0 0])  (by kernel_rfl) (by kernel_rfl)) ?_
  refine RL.store (v:=.agg #[.int .i64 0,.int .i64 0,.int .i64 0,.slice none 0 0,.slice none 0 0]) (cs':=#[.int .i64 0,.int .i64 0,.int .i64 0,.slice none 0 0,.slice none 0 0]) rfl s2_4 rfl Bz344 (by kernel_rfl) (by rfl) (by rfl) (by rfl) (fun w407 B408 ho409=>?_)
  have szw407:=ho409.size
  have Bz345:=Bz345.only_ ho409 (by intro hin; simp at hin; exact Eob33_ob4.symm hin)
  have G8:=OwF.only G8 ho409 Zo9_ob4
  have Guz344_0:=OwF.only Guz344_0 ho409 Noz344_0_ob4
  have Guz344_1:=OwF.only Guz344_1 ho409 Noz344_1_ob4
  have Guz345_0:=OwF.only Guz345_0 ho409 Noz345_0_ob4
  have Guz345_1:=OwF.only Guz345_1 ho409 Noz345_1_ob4
  have G363:=OwF.only G363 ho409 Zo364_ob4
  have T:=T.trans (ho409.below (by first|(simp; done)|(simp; omega)))
  refine RL.y rfl (Y.assign (v:=.bool false) rfl)<|RL.nil<|then_n<|wp_ret ?_
  obtain rfl:=sj hm
  exact (then_r (blk_r (then_r (then_r (hit_r (blk_r (then_r (retct (cs:=[.int .i64 0,.int .i64 0,.int .i64 0,.slice none 0 0,.slice none 0 0]) rfl rfl s2_4 rfl (by kernel_rfl) (blkCells B408) ⟨⟨_,_,rfl,OwF.nil,OwF.nil,Dj.nil⟩,T⟩))))))))
def m_impl_ReadNet_A1 (d0:ByteArray) (z18:DNet) (z19:DNet):Option (DNet × Int):=
  ((m_impl_ValidNet z19).bind fun y23=>(bif y23 then ((m_impl_netText z19).bind fun y31=>(bif (y31.toList==d0.toList) then some (z19,0) else some ((⟨[]⟩:DNet),6))) else some ((⟨[]⟩:DNet),6)))
def m_impl_ReadNet_B1 (y9:List ByteArray) (rec1:Int→DNet→DNet→Option (DNet × Int)) (K1:DNet→DNet→Option (DNet × Int)) (i42:Int) (z43:DNet) (z44:DNet):Option (DNet × Int):=
  (bif (decide (i42 < (y9.length:Int))) then ((getI y9 i42).bind fun x47=>((m_impl_readAgent x47).bind fun y53=>(bif y53.2 then (bif ((z44.agents.length:Int)==600) then some ((⟨[]⟩:DNet),6) else ((mustP (z44.agents.length+([y53.1]).length≤4294967296)).bind fun _=>(rec1 (i42+1) z43 (⟨(z44.agents ++ [y53.1])⟩:DNet)))) else some ((⟨[]⟩:DNet),6)))) else (K1 z43 z44))
def m_impl_ReadNet_L1 (y9:List ByteArray) (K1:DNet→DNet→Option (DNet × Int)):Nat→Int→DNet→DNet→Option (DNet × Int)
  |0,_,_,_=>none
  |g+1,i42,z43,z44=>m_impl_ReadNet_B1 y9 (m_impl_ReadNet_L1 y9 K1 g) K1 i42 z43 z44
def m_impl_ReadNet (d0:ByteArray):Option (DNet × Int):=
  ((splitM d0 (ByteArray.mk #[59,32])).bind fun y9=>(m_impl_ReadNet_L1 y9 (m_impl_ReadNet_A1 d0) (y9.length+1) 0 (⟨[]⟩:DNet) (⟨[]⟩:DNet)))
set_option maxHeartbeats 2000000 in
theorem c_m_impl_ReadNet (d0:ByteArray) (r:DNet × Int) (hm:m_impl_ReadNet d0=some r)  (w:World) (hW:WR w)  :
    Calls Tryz.prog 11 #[.string d0] w fun e w'=>(∃(v0:Value) (bs0:List Nat),e=.returned (.tuple #[.agg #[v0],.int .i64 r.2])∧OwN 49 agentOw 5 w' w.heap.size v0 r.1.agents bs0)∧Below w.heap.size w w':=by
  have T:=Below.refl w.heap.size w
  unfold m_impl_ReadNet at hm
  refine enter 48 Tryz.func11 rfl rfl rfl ?_
  intro f hf
  have s0:f 0=.string d0:=hf 0 _ rfl
  refine wp_seq<|wp_rl rfl ?_
  refine RL.alloc (z:=.agg #[.slice none 0 0]) rfl (by kernel_rfl) (fun w1 B2 hb3 szw1=>?_)
  replace B2:Blk w1 w.heap.size 29 #[.slice none 0 0]:=B2
  have GB2:w.heap.size≤w.heap.size:=T.size
  have T:=Tt T hb3
  refine RL.y rfl (Y.assign (v:=.int .i64 0) rfl)<|RL.nil<|then_n<|wp_seq<|wp_rl rfl ?_
  refine RL.alloc (z:=.agg #[.slice none 0 0]) rfl (by kernel_rfl) (fun w5 B6 hb7 szw5=>?_)
  replace B6:Blk w5 w1.heap.size 29 #[.slice none 0 0]:=B6
  have GB6:w.heap.size≤w1.heap.size:=T.size
  have Eob8_ob4:=Nat.ne_of_lt B2.lt
  have B2:=blkT B2 hb7
  have T:=Tt T hb7
  refine RL.nil<|then_n<|wp_seq<|wp_seq<|wp_rl rfl<|RL.y rfl (Y.move (v:=.string d0) s0) ?_
  obtain ⟨y9,e10,hm⟩:=bnd hm
  refine RL.call rfl (am2 rfl rfl) (by kernel_rfl) ((c_splitM d0 (ByteArray.mk #[59,32]) _ e10  _ (WR.below hW T).toWD ).mono ?_)
  rintro _ w14 ⟨⟨v11,rfl,G12⟩,hb15⟩
  refine ⟨_,rfl,?_⟩
  have szw14:=hb15.size
  have T0w14:=T.size
  have Zo13_ob4:=ap_ne (Ap.new (OwF.flo G12) (one_hi B2.lt))
  have Zo13_ob8:=ap_ne (Ap.new (OwF.flo G12) (one_hi B6.lt))
  have B2:=blkT B2 hb15
  have B6:=blkT B6 hb15
  have T:=Tt T hb15
  replace G12:=OwF.mono G12 T0w14
  obtain ⟨A16,c17,rfl⟩:=OwF.form G12
  have qbA16:=OwF.bound G12
  refine RL.y rfl (Y.len (by kernel_rfl) rfl)<|RL.y rfl (Y.move (v:=.int .i64 0) rfl)<|RL.nil<|then_n<|wp_block ?_
  obtain ⟨K1,hK1,hm⟩ :∃K,K=(m_impl_ReadNet_A1 d0)∧m_impl_ReadNet_L1 y9 K (y9.length+1) 0 (⟨[]⟩:DNet) (⟨[]⟩:DNet)=some r:=⟨_,rfl,hm⟩
  refine wp_loopX (fun g f w'=>∃(i42:Int) (z43:DNet) (z44:DNet) (uz43_0:Value) (bsz43_0:List Nat) (uz44_0:Value) (bsz44_0:List Nat),f 0=.string d0∧f 2=.pointer (some ⟨w.heap.size,0,none⟩)∧f 4=.pointer (some ⟨w1.heap.size,0,none⟩)∧f 10=.slice A16 y9.length c17∧f 11=.int .i64 (y9.length:Int)∧f 12=.int .i64 i42∧0≤i42∧Blk w' w.heap.size 29 #[uz43_0]∧OwN 49 agentOw 5 w' w.heap.size uz43_0 z43.agents bsz43_0∧Blk w' w1.heap.size 29 #[uz44_0]∧OwN 49 agentOw 5 w' w.heap.size uz44_0 z44.agents bsz44_0∧Ap bsz43_0 (fb (.slice A16 y9.length c17))∧Ap bsz43_0 [w.heap.size]∧Ap bsz43_0 [w1.heap.size]∧Ap bsz44_0 bsz43_0∧Ap bsz44_0 (fb (.slice A16 y9.length c17))∧Ap bsz44_0 [w.heap.size]∧Ap bsz44_0 [w1.heap.size]∧OwF 9 encS 1 w' w.heap.size (.slice A16 y9.length c17) y9∧Below w.heap.size w w'∧m_impl_ReadNet_L1 y9 K1 g i42 z43 z44=some r) 0 (fun f w'=>∃(z18:DNet) (z19:DNet) (uz18_0:Value) (bsz18_0:List Nat) (uz19_0:Value) (bsz19_0:List Nat),f 0=.string d0∧f 2=.pointer (some ⟨w.heap.size,0,none⟩)∧f 4=.pointer (some ⟨w1.heap.size,0,none⟩)∧Blk w' w.heap.size 29 #[uz18_0]∧OwN 49 agentOw 5 w' w.heap.size uz18_0 z18.agents bsz18_0∧Blk w' w1.heap.size 29 #[uz19_0]∧OwN 49 agentOw 5 w' w.heap.size uz19_0 z19.agents bsz19_0∧Ap bsz18_0 [w.heap.size]∧Ap bsz18_0 [w1.heap.size]∧Ap bsz19_0 bsz18_0∧Ap bsz19_0 [w.heap.size]∧Ap bsz19_0 [w1.heap.size]∧Below w.heap.size w w'∧m_impl_ReadNet_A1 d0 z18 z19=some r) (y9.length+1) ⟨0,(⟨[]⟩:DNet),(⟨[]⟩:DNet),(.slice none 0 0),[],(.slice none 0 0),[],s0,rfl,rfl,rfl,rfl,rfl,(by omega),B2,OwN.nil,B6,OwN.nil,Ap.nil,Ap.nil,Ap.nil,Ap.nil,Ap.nil,Ap.nil,Ap.nil,G12,T,hm⟩ ?_ ?_
  ·rintro f w20 ⟨z18,z19,uz18_0,bsz18_0,uz19_0,bsz19_0,s0_1x,s2_1x,s4_1x,Bz18,Guz18_0,Bz19,Guz19_0,Noz18_0_ob4,Noz18_0_ob8,Doz19_0_oz18_0,Noz19_0_ob4,Noz19_0_ob8,T,hm⟩
   unfold m_impl_ReadNet_A1 at hm
   refine blk_hit (then_n ?_)
   refine wp_seq<|wp_seq<|wp_rb rfl<|RQ.y rfl (Y.loadN (cs:=[uz19_0]) s4_1x (by kernel_rfl) (cells1 (beC (blkCell Bz19 (i:=0) rfl)))) ?_
   obtain ⟨A21,c22,rfl⟩:=OwN.form Guz19_0
   have qbA21:=OwN.bound Guz19_0
   obtain ⟨y23,e24,hm⟩:=bnd hm
   refine RQ.call rfl (am1 rfl) (by kernel_rfl) (v:=.bool y23) (bel (K:=fun _=>True) fun w' hb'=>(c_m_impl_ValidNet z19 _ e24 _ w' (stArg (R:=netRd) ⟨_,_,_,rfl,(OwN.sl agentOw_ok (agentOw_reads _) (OwN.below agentOw_ok Guz19_0 hb'))⟩)))<|RQ.y rfl (Y.not (b':=(!y23)) rfl rfl)<|RQ.y rfl (Y.move (v:=.bool (!y23)) rfl) ?_
   rcases bcases y23 with c25|c25
   ·replace hm:=cF c25 hm
    iterate 4 refine RQ.skip (wantN (dj:=40) rfl (vbn rfl c25 rfl) rfl) ?_
    refine RQ.y rfl (Y.pick (b:=true) (v:=.bool true) (vbn rfl c25 rfl) rfl)<|RQ.nil ?_
    intro w26 hb27
    have szw26:=hb27.size
    have Bz18:=blkT Bz18 hb27
    have Bz19:=blkT Bz19 hb27
    have Guz18_0:=OwN.below agentOw_ok Guz18_0 hb27
    have Guz19_0:=OwN.below agentOw_ok Guz19_0 hb27
    have T:=Tt T hb27
    refine then_n<|cond_t rfl rfl<|wp_seq<|wp_rl rfl<|RL.y rfl (Y.build0 (cells:=#[.slice none 0 0])  (by kernel_rfl) (by kernel_rfl)) ?_
    refine RL.store (v:=.agg #[.slice none 0 0]) (cs':=#[.slice none 0 0]) rfl s2_1x rfl Bz18 (by kernel_rfl) (by rfl) (by rfl) (by rfl) (fun w28 B29 ho30=>?_)
    have szw28:=ho30.size
    have Bz19:=Bz19.only_ ho30 (by intro hin; simp at hin; exact Eob8_ob4.symm hin)
    have Guz18_0:=OwN.only agentOw_ok Guz18_0 ho30 (Ap.one Noz18_0_ob4)
    have Guz19_0:=OwN.only agentOw_ok Guz19_0 ho30 (Ap.one Noz19_0_ob4)
    have T:=T.trans (ho30.below (by first|(simp; done)|(simp; omega)))
    refine RL.y rfl (Y.assign (v:=.int .i64 6) rfl)<|RL.nil<|then_n<|wp_ret ?_
    obtain rfl:=sj hm
    exact (then_r (retct (cs:=[.slice none 0 0]) rfl rfl s2_1x rfl (by kernel_rfl) (blkCells B29) ⟨⟨_,_,rfl,OwN.nil⟩,T⟩))
   replace hm:=cT c25 hm
   refine RQ.y (wantT (dj:=40) rfl (vbn rfl c25 rfl)) (Y.loadN (cs:=[.slice A21 z19.agents.length c22]) s4_1x (by kernel_rfl) (cells1 (beC (blkCell Bz19 (i:=0) rfl)))) ?_
   obtain ⟨y31,e32,hm⟩:=bnd hm
   refine RQ.call (wantT (dj:=40) rfl (vbn rfl c25 rfl)) (am1 rfl) (by kernel_rfl) (v:=.string y31) (bel (K:=fun _=>True) fun w' hb'=>(c_m_impl_netText z19 _ e32 _ w' (WR.below hW (Tt T hb')).toWD (stArg (R:=netRd) ⟨_,_,_,rfl,(OwN.sl agentOw_ok (agentOw_reads _) (OwN.below agentOw_ok Guz19_0 hb'))⟩)))<|RQ.y (wantT (dj:=40) rfl (vbn rfl c25 rfl)) (Y.move (v:=.string d0) s0_1x)<|RQ.y (wantT (dj:=40) rfl (vbn rfl c25 rfl)) (Y.neStr rfl rfl (by kernel_rfl))<|RQ.y rfl (Y.pick (b:=false) (v:=.bool (!(y31.toList==d0.toList))) (vbn rfl c25 rfl) rfl)<|RQ.nil ?_
   intro w33 hb34
   have szw33:=hb34.size
   have Bz18:=blkT Bz18 hb34
   have Bz19:=blkT Bz19 hb34
   have Guz18_0:=OwN.below agentOw_ok Guz18_0 hb34
   have Guz19_0:=OwN.below agentOw_ok Guz19_0 hb34
   have T:=Tt T hb34
   refine then_n ?_
   rcases bcases (y31.toList==d0.toList) with c35|c35
   ·replace hm:=cF c35 hm
    refine cond_t rfl (vbn rfl c35 rfl)<|wp_seq<|wp_rl rfl<|RL.y rfl (Y.build0 (cells:=#[.slice none 0 0])  (by kernel_rfl) (by kernel_rfl)) ?_
    refine RL.store (v:=.agg #[.slice none 0 0]) (cs':=#[.slice none 0 0]) rfl s2_1x rfl Bz18 (by kernel_rfl) (by rfl) (by rfl) (by rfl) (fun w36 B37 ho38=>?_)
    have szw36:=ho38.size
    have Bz19:=Bz19.only_ ho38 (by intro hin; simp at hin; exact Eob8_ob4.symm hin)
    have Guz18_0:=OwN.only agentOw_ok Guz18_0 ho38 (Ap.one Noz18_0_ob4)
    have Guz19_0:=OwN.only agentOw_ok Guz19_0 ho38 (Ap.one Noz19_0_ob4)
    have T:=T.trans (ho38.below (by first|(simp; done)|(simp; omega)))
    refine RL.y rfl (Y.assign (v:=.int .i64 6) rfl)<|RL.nil<|then_n<|wp_ret ?_
    obtain rfl:=sj hm
    exact (then_r (retct (cs:=[.slice none 0 0]) rfl rfl s2_1x rfl (by kernel_rfl) (blkCells B37) ⟨⟨_,_,rfl,OwN.nil⟩,T⟩))
   replace hm:=cT c35 hm
   refine cond_f rfl (vbn rfl c35 rfl)<|wp_skip<|then_n<|wp_seq<|wp_rl rfl<|RL.y rfl (Y.loadN (cs:=[.slice A21 z19.agents.length c22]) s4_1x (by kernel_rfl) (cells1 (eqC (blkCell Bz19 (i:=0) rfl)))) ?_
   refine RL.store (v:=.agg #[.slice A21 z19.agents.length c22]) (cs':=#[.slice A21 z19.agents.length c22]) rfl s2_1x rfl Bz18 (by kernel_rfl) (by rfl) (by rfl) (by rfl) (fun w39 B40 ho41=>?_)
   have szw39:=ho41.size
   have Bz19:=Bz19.only_ ho41 (by intro hin; simp at hin; exact Eob8_ob4.symm hin)
   have Guz18_0:=OwN.only agentOw_ok Guz18_0 ho41 (Ap.one Noz18_0_ob4)
   have Guz19_0:=OwN.only agentOw_ok Guz19_0 ho41 (Ap.one Noz19_0_ob4)
   have T:=T.trans (ho41.below (by first|(simp; done)|(simp; omega)))
   refine RL.y rfl (Y.assign (v:=.int .i64 0) rfl)<|RL.nil<|then_n<|wp_ret ?_
   obtain rfl:=sj hm
   exact (retct (cs:=[.slice A21 z19.agents.length c22]) rfl rfl s2_1x rfl (by kernel_rfl) (blkCells B40) ⟨⟨_,_,rfl,Guz19_0⟩,T⟩)
  rintro g f w45 ⟨i42,z43,z44,uz43_0,bsz43_0,uz44_0,bsz44_0,s0_1,s2_1,s4_1,s10_1,s11_1,s12_1,nn12_1,Bz43,Guz43_0,Bz44,Guz44_0,Doz43_0_o13,Noz43_0_ob4,Noz43_0_ob8,Doz44_0_oz43_0,Doz44_0_o13,Noz44_0_ob4,Noz44_0_ob8,G12,T,hm⟩
  rcases g with _|g
  ·simp only [m_impl_ReadNet_L1] at hm; cases hm
  obtain ⟨rec1,hrec1,hm⟩ :∃z,z=m_impl_ReadNet_L1 y9 K1 g∧m_impl_ReadNet_B1 y9 z K1 i42 z43 z44=some r:=⟨_,rfl,hm⟩
  unfold m_impl_ReadNet_B1 at hm
  refine wp_seq<|wp_rs rfl<|RQ.y rfl (Y.binI (v:=.bool (decide (i42 < (y9.length:Int)))) s12_1 s11_1 rfl)<|RQ.nil<|then_n<|wp_seq ?_
  rcases bcases (decide (i42 < (y9.length:Int))) with c46|c46
  ·replace hm:=cF c46 hm
   have pc46:=of_decide_eq_false c46
   refine cond_f rfl (vb rfl c46)<|wp_exit ?_
   exact (then_x (then_x (hit_x ⟨_,rfl,⟨z43,z44,(uz43_0),bsz43_0,(uz44_0),bsz44_0,s0_1,s2_1,s4_1,Bz43,Guz43_0,Bz44,Guz44_0,Noz43_0_ob4,Noz43_0_ob8,Doz44_0_oz43_0,Noz44_0_ob4,Noz44_0_ob8,T,(by rw [hK1] at hm; exact hm)⟩⟩)))
  replace hm:=cT c46 hm
  have pc46:=of_decide_eq_true c46
  refine cond_t rfl (vb rfl c46)<|wp_skip<|then_n<|wp_seq<|wp_block<|wp_seq<|wp_rs rfl ?_
  obtain ⟨x47,hx49,hm⟩:=bnd hm
  obtain ⟨k48,hk50,hl51,hx49⟩:=getI_some hx49
  obtain ⟨b52,rfl⟩:=OwF.addr0 G12 (by omega)
  refine RQ.y rfl (Y.indexAddr (m:=k48) (sz:=1) s10_1 s12_1 hk50 hl51 (by kernel_rfl))<|RQ.y rfl (Y.load (v:=.string x47) rfl (by kernel_rfl) (eqC (OwF.cell fS G12 hx49 (j:=0) rfl)))<|RQ.y rfl (Y.assign (v:=.string x47) rfl)<|RQ.nil<|then_n<|wp_seq<|wp_rl rfl<|RL.y rfl (Y.move (v:=.string x47) rfl) ?_
  obtain ⟨y53,e54,hm⟩:=bnd hm
  refine RL.call rfl (am1 rfl) (by kernel_rfl) ((c_m_impl_readAgent x47 _ e54  _ (WR.below hW T) ).mono ?_)
  rintro _ w61 ⟨⟨v55,v58,rfl,G56,G59,Ro57_o60⟩,hb62⟩
  refine ⟨_,rfl,?_⟩
  have szw61:=hb62.size
  have T0w61:=T.size
  have Zo57_ob4:=ap_ne (Ap.new (OwF.flo G56) (one_hi Bz43.lt))
  have Zo57_ob8:=ap_ne (Ap.new (OwF.flo G56) (one_hi Bz44.lt))
  have Zo57_o13:=Ap.dj (Ap.new (OwF.flo G56) (OwF.fhi G12))
  have Zo57_oz43_0:Ap (fb v55) bsz43_0:=(Ap.new (OwF.flo G56) (OwN.hi Guz43_0))
  have Zo57_oz44_0:Ap (fb v55) bsz44_0:=(Ap.new (OwF.flo G56) (OwN.hi Guz44_0))
  have Zo60_ob4:=ap_ne (Ap.new (OwF.flo G59) (one_hi Bz43.lt))
  have Zo60_ob8:=ap_ne (Ap.new (OwF.flo G59) (one_hi Bz44.lt))
  have Zo60_o13:=Ap.dj (Ap.new (OwF.flo G59) (OwF.fhi G12))
  have Zo60_oz43_0:Ap (fb v58) bsz43_0:=(Ap.new (OwF.flo G59) (OwN.hi Guz43_0))
  have Zo60_oz44_0:Ap (fb v58) bsz44_0:=(Ap.new (OwF.flo G59) (OwN.hi Guz44_0))
  have Bz43:=blkT Bz43 hb62
  have Bz44:=blkT Bz44 hb62
  have G12:=OwF.below G12 hb62
  have Guz43_0:=OwN.below agentOw_ok Guz43_0 hb62
  have Guz44_0:=OwN.below agentOw_ok Guz44_0 hb62
  have T:=Tt T hb62
  replace G56:=OwF.mono G56 T0w61
  replace G59:=OwF.mono G59 T0w61
  refine RL.y rfl (Y.move (v:=.tuple #[.agg #[.int .i64 y53.1.kind,.int .i64 y53.1.level,.int .i64 y53.1.value,v55,v58],.bool y53.2]) rfl)<|RL.y rfl (Y.extract (i:=0) rfl rfl)<|RL.y rfl (Y.extract (i:=1) rfl rfl) ?_
  refine RL.alloc (z:=.agg #[.int .i64 0,.int .i64 0,.int .i64 0,.slice none 0 0,.slice none 0 0]) rfl (by kernel_rfl) (fun w63 B64 hb65 szw63=>?_)
  replace B64:Blk w63 w61.heap.size 49 #[.int .i64 0,.int .i64 0,.int .i64 0,.slice none 0 0,.slice none 0 0]:=B64
  have GB64:w.heap.size≤w61.heap.size:=T.size
  have Eob66_ob4:=Nat.ne_of_lt Bz43.lt
  have Eob66_ob8:=Nat.ne_of_lt Bz44.lt
  have No13_ob66:=OwF.far G12 (Nat.le_refl _)
  have Noz43_0_ob66:=Ap.far (OwN.hi Guz43_0)
  have Noz44_0_ob66:=Ap.far (OwN.hi Guz44_0)
  have No57_ob66:=OwF.far G56 (Nat.le_refl _)
  have No60_ob66:=OwF.far G59 (Nat.le_refl _)
  have Bz43:=blkT Bz43 hb65
  have Bz44:=blkT Bz44 hb65
  have G12:=OwF.below G12 hb65
  have Guz43_0:=OwN.below agentOw_ok Guz43_0 hb65
  have Guz44_0:=OwN.below agentOw_ok Guz44_0 hb65
  have G56:=OwF.below G56 hb65
  have G59:=OwF.below G59 hb65
  have T:=Tt T hb65
  obtain ⟨A67,c68,rfl⟩:=OwF.form G56
  have qbA67:=OwF.bound G56
  obtain ⟨A69,c70,rfl⟩:=OwF.form G59
  have qbA69:=OwF.bound G59
  refine RL.store (v:=.agg #[.int .i64 y53.1.kind,.int .i64 y53.1.level,.int .i64 y53.1.value,.slice A67 y53.1.data.length c68,.slice A69 y53.1.ports.length c70]) (cs':=#[.int .i64 y53.1.kind,.int .i64 y53.1.level,.int .i64 y53.1.value,.slice A67 y53.1.data.length c68,.slice A69 y53.1.ports.length c70]) rfl rfl rfl B64 (by kernel_rfl) (by rfl) (by rfl) (by rfl) (fun w71 B72 ho73=>?_)
  have szw71:=ho73.size
  have Bz43:=Bz43.only_ ho73 (by intro hin; simp at hin; exact Eob66_ob4 hin)
  have Bz44:=Bz44.only_ ho73 (by intro hin; simp at hin; exact Eob66_ob8 hin)
  have G12:=OwF.only G12 ho73 No13_ob66
  have Guz43_0:=OwN.only agentOw_ok Guz43_0 ho73 (Ap.one Noz43_0_ob66)
  have Guz44_0:=OwN.only agentOw_ok Guz44_0 ho73 (Ap.one Noz44_0_ob66)
  have G56:=OwF.only G56 ho73 No57_ob66
  have G59:=OwF.only G59 ho73 No60_ob66
  have T:=T.trans (ho73.below (by first|(simp; done)|(simp; omega)))
  refine RL.y rfl (Y.assign (v:=.bool y53.2) rfl)<|RL.nil<|then_n<|wp_seq<|wp_seq<|wp_rs rfl<|RQ.y rfl (Y.move (v:=.bool y53.2) rfl)<|RQ.y rfl (Y.not (b':=(!y53.2)) rfl rfl)<|RQ.y rfl (Y.move (v:=.bool (!y53.2)) rfl) ?_
  rcases bcases y53.2 with c74|c74
  ·replace hm:=cF c74 hm
   iterate 4 refine RQ.skip (wantN (dj:=23) rfl (vbn rfl c74 rfl) rfl) ?_
   refine RQ.y rfl (Y.pick (b:=true) (v:=.bool true) (vbn rfl c74 rfl) rfl)<|RQ.nil<|then_n<|cond_t rfl rfl<|wp_seq<|wp_rl rfl<|RL.y rfl (Y.build0 (cells:=#[.slice none 0 0])  (by kernel_rfl) (by kernel_rfl)) ?_
   refine RL.store (v:=.agg #[.slice none 0 0]) (cs':=#[.slice none 0 0]) rfl s2_1 rfl Bz43 (by kernel_rfl) (by rfl) (by rfl) (by rfl) (fun w75 B76 ho77=>?_)
   have szw75:=ho77.size
   have Bz44:=Bz44.only_ ho77 (by intro hin; simp at hin; exact Eob8_ob4.symm hin)
   have B72:=B72.only_ ho77 (by intro hin; simp at hin; exact Eob66_ob4.symm hin)
   have G12:=OwF.only G12 ho77 Zo13_ob4
   have Guz43_0:=OwN.only agentOw_ok Guz43_0 ho77 (Ap.one Noz43_0_ob4)
   have Guz44_0:=OwN.only agentOw_ok Guz44_0 ho77 (Ap.one Noz44_0_ob4)
   have G56:=OwF.only G56 ho77 Zo57_ob4
   have G59:=OwF.only G59 ho77 Zo60_ob4
   have T:=T.trans (ho77.below (by first|(simp; done)|(simp; omega)))
   refine RL.y rfl (Y.assign (v:=.int .i64 6) rfl)<|RL.nil<|then_n<|wp_ret ?_
   obtain rfl:=sj hm
   exact (then_r (blk_r (then_r (then_r (hit_r (blk_r (then_r (retct (cs:=[.slice none 0 0]) rfl rfl s2_1 rfl (by kernel_rfl) (blkCells B76) ⟨⟨_,_,rfl,OwN.nil⟩,T⟩))))))))
  replace hm:=cT c74 hm
  refine RQ.y (wantT (dj:=23) rfl (vbn rfl c74 rfl)) (Y.fieldAddr (off:=0) s4_1 (by kernel_rfl))<|RQ.y (wantT (dj:=23) rfl (vbn rfl c74 rfl)) (Y.load (v:=uz44_0) rfl (by kernel_rfl) (eqC (blkCell Bz44 (i:=0) rfl))) ?_
  obtain ⟨A78,c79,rfl⟩:=OwN.form Guz44_0
  have qbA78:=OwN.bound Guz44_0
  refine RQ.y (wantT (dj:=23) rfl (vbn rfl c74 rfl)) (Y.len (by kernel_rfl) rfl)<|RQ.y (wantT (dj:=23) rfl (vbn rfl c74 rfl)) (Y.binI (v:=.bool ((z44.agents.length:Int)==600)) rfl rfl rfl)<|RQ.y rfl (Y.pick (b:=false) (v:=.bool ((z44.agents.length:Int)==600)) (vbn rfl c74 rfl) rfl)<|RQ.nil<|then_n ?_
  rcases bcases ((z44.agents.length:Int)==600) with c80|c80
  ·replace hm:=cF c80 hm
   refine cond_f rfl (vb rfl c80)<|wp_skip<|then_n<|wp_rl rfl<|RL.y rfl (Y.fieldAddr (off:=0) s4_1 (by kernel_rfl))<|RL.y rfl (Y.load (v:=.slice A78 z44.agents.length c79) rfl (by kernel_rfl) (eqC (blkCell Bz44 (i:=0) rfl)))<|RL.y rfl (Y.loadN (cs:=[.int .i64 y53.1.kind,.int .i64 y53.1.level,.int .i64 y53.1.value,.slice A67 y53.1.data.length c68,.slice A69 y53.1.ports.length c70]) rfl (by kernel_rfl) (cells5 (eqC (blkCell B72 (i:=0) rfl)) (eqC (blkCell B72 (i:=1) rfl)) (eqC (blkCell B72 (i:=2) rfl)) (eqC (blkCell B72 (i:=3) rfl)) (eqC (blkCell B72 (i:=4) rfl)))) ?_
   refine RL.bslice (e:=49) (cells:=#[.int .i64 y53.1.kind,.int .i64 y53.1.level,.int .i64 y53.1.value,.slice A67 y53.1.data.length c68,.slice A69 y53.1.ports.length c70]) rfl (pm1 rfl) (by kernel_rfl) (fun w81 B82 hb83 szw81=>?_)
   have ZB82:w.heap.size≤w71.heap.size:=T.size
   have q85:=OwF.fboth G56 (Nat.le_refl _)
   have q86:=OwF.fboth G59 (Nat.le_refl _)
   have z87:=Ap.cons (Ap.farL (one_hi Bz43.lt)) (Ap.append (ne_ap Zo57_ob4) (ne_ap Zo60_ob4))
   have z88:=Ap.cons (Ap.farL (one_hi Bz44.lt)) (Ap.append (ne_ap Zo57_ob8) (ne_ap Zo60_ob8))
   have z89:=Ap.cons (Ap.farL (one_hi B72.lt)) (Ap.append (ne_ap No57_ob66) (ne_ap No60_ob66))
   have z90:=Ap.cons (Ap.farL (OwF.fhi G12)) (Ap.append (Dj.ap Zo57_o13) (Dj.ap Zo60_o13))
   have z91:=Ap.cons (Ap.farL (OwN.hi Guz43_0)) (Ap.append Zo57_oz43_0 Zo60_oz43_0)
   have z92:=Ap.cons (Ap.farL (OwN.hi Guz44_0)) (Ap.append Zo57_oz44_0 Zo60_oz44_0)
   have Bz43:=blkT Bz43 hb83
   have Bz44:=blkT Bz44 hb83
   have B72:=blkT B72 hb83
   have G12:=OwF.below G12 hb83
   have Guz43_0:=OwN.below agentOw_ok Guz43_0 hb83
   have Guz44_0:=OwN.below agentOw_ok Guz44_0 hb83
   have G56:=OwF.below G56 hb83
   have G59:=OwF.below G59 hb83
   have T:=Tt T hb83
   obtain ⟨l94,a93,nd95,sb96,r97⟩:=OwF.own2 fI G56
   obtain ⟨l99,a98,nd100,sb101,r102⟩:=OwF.own2 fPort G59
   have G103:OwN 49 agentOw 5 w81 w.heap.size (.slice (some ⟨w71.heap.size,0,none⟩) 1 1) [y53.1] (w71.heap.size :: ((fb (.slice A67 y53.1.data.length c68)) ++ (fb (.slice A69 y53.1.ports.length c70)))):=OwN.lit1 (b1:=(l94 ++ l99)) B82 ZB82 ⟨_,_,_,_,_,_,l94,l99,rfl,⟨a93,r97⟩,⟨a98,r102⟩,rfl⟩ agentOw_ok (nodup2 nd95 nd100 sb96 sb101 (Dj.ap Ro57_o60)) (sub2 sb96 sb101) (all2 q85 q86)
   obtain ⟨_,m105,hm⟩:=bnd hm
   have hk106:=mustP_some m105
   refine RL.appendN agentOw_ok agentOw_one (by decide) app_impl_Agent rfl rfl rfl Guz44_0 G103 (Ap.symm z92) T.size hk106 (fun v107 w108 bs109 G110 hgr111 hbl112 hnb113=>?_)
   have szw108:=hbl112.size
   have z115:=Ap.app hnb113 Noz44_0_ob4 z87 (one_hi Bz43.lt)
   have z116:=Ap.app hnb113 Noz44_0_ob8 z88 (one_hi Bz44.lt)
   have z117:=Ap.app hnb113 Noz44_0_ob66 z89 (one_hi B72.lt)
   have z118:=Ap.app hnb113 Doz44_0_o13 z90 (OwF.fhi G12)
   have z119:=Ap.app hnb113 Doz44_0_oz43_0 z91 (OwN.hi Guz43_0)
   have Bz43:=Blk.kept Bz43 hgr111 (OwN.neB Guz44_0 Noz44_0_ob4)
   have Bz44:=Blk.kept Bz44 hgr111 (OwN.neB Guz44_0 Noz44_0_ob8)
   have B72:=Blk.kept B72 hgr111 (OwN.neB Guz44_0 Noz44_0_ob66)
   have G12:=OwF.keptD G12 hgr111 (OwN.dj Guz44_0 Doz44_0_o13)
   have Guz43_0:=OwN.grown agentOw_ok Guz43_0 hgr111 (OwN.apRow Guz44_0 Doz44_0_oz43_0)
   have T:=T.trans hbl112
   refine RL.y rfl (Y.fieldAddr (off:=0) s4_1 (by kernel_rfl)) ?_
   obtain ⟨A120,c121,rfl⟩:=OwN.form G110
   have qbA120:=OwN.bound G110
   refine RL.store (v:=.slice A120 ((z44.agents ++ [y53.1]).length) c121) (cs':=#[.slice A120 ((z44.agents ++ [y53.1]).length) c121]) rfl rfl rfl Bz44 (by kernel_rfl) (by rfl) (by rfl) (by rfl) (fun w122 B123 ho124=>?_)
   have szw122:=ho124.size
   have Bz43:=Bz43.only_ ho124 (by intro hin; simp at hin; exact Eob8_ob4 hin)
   have B72:=B72.only_ ho124 (by intro hin; simp at hin; exact Eob66_ob8.symm hin)
   have G12:=OwF.only G12 ho124 Zo13_ob8
   have Guz43_0:=OwN.only agentOw_ok Guz43_0 ho124 (Ap.one Noz43_0_ob8)
   have G110:=OwN.only agentOw_ok G110 ho124 (Ap.one z116)
   have T:=T.trans (ho124.below (by first|(simp; done)|(simp; omega)))
   refine RL.nil ?_
   refine blk_n (then_n ?_)
   refine wp_rs rfl<|RQ.y rfl (Y.binI s12_1 rfl (binI_add (m:=i42) (by omega)))<|RQ.y rfl (Y.move (v:=.int .i64 (i42+1)) rfl)<|RQ.nil ?_
   exact (then_n ⟨g,_,Nat.lt_succ_self _,rfl,⟨(i42+1),z43,(⟨(z44.agents ++ [y53.1])⟩:DNet),(uz43_0),bsz43_0,(.slice A120 ((z44.agents ++ [y53.1]).length) c121),bs109,s0_1,s2_1,s4_1,s10_1,s11_1,rfl,(by omega),Bz43,Guz43_0,B123,G110,Doz43_0_o13,Noz43_0_ob4,Noz43_0_ob8,z119,z118,z115,z116,G12,T,(by rw [← hrec1]; exact hm)⟩⟩)
  replace hm:=cT c80 hm
  refine cond_t rfl (vb rfl c80)<|wp_seq<|wp_rl rfl<|RL.y rfl (Y.build0 (cells:=#[.slice none 0 0])  (by kernel_rfl) (by kernel_rfl)) ?_
  refine RL.store (v:=.agg #[.slice none 0 0]) (cs':=#[.slice none 0 0]) rfl s2_1 rfl Bz43 (by kernel_rfl) (by rfl) (by rfl) (by rfl) (fun w125 B126 ho127=>?_)
  have szw125:=ho127.size
  have Bz44:=Bz44.only_ ho127 (by intro hin; simp at hin; exact Eob8_ob4.symm hin)
  have B72:=B72.only_ ho127 (by intro hin; simp at hin; exact Eob66_ob4.symm hin)
  have G12:=OwF.only G12 ho127 Zo13_ob4
  have Guz43_0:=OwN.only agentOw_ok Guz43_0 ho127 (Ap.one Noz43_0_ob4)
  have Guz44_0:=OwN.only agentOw_ok Guz44_0 ho127 (Ap.one Noz44_0_ob4)
  have G56:=OwF.only G56 ho127 Zo57_ob4
  have G59:=OwF.only G59 ho127 Zo60_ob4
  have T:=T.trans (ho127.below (by first|(simp; done)|(simp; omega)))
  refine RL.y rfl (Y.assign (v:=.int .i64 6) rfl)<|RL.nil<|then_n<|wp_ret ?_
  obtain rfl:=sj hm
  exact (then_r (blk_r (then_r (then_r (hit_r (blk_r (then_r (retct (cs:=[.slice none 0 0]) rfl rfl s2_1 rfl (by kernel_rfl) (blkCells B126) ⟨⟨_,_,rfl,OwN.nil⟩,T⟩))))))))
end
section
open Go.RowKit Go.Sort
theorem getB_at {s:ByteArray} {k:Nat} {c:UInt8} (h:s.data.toList[k]? = some c):getB s (k:Int)=some ((c.toNat:Nat):Int):=by
  have hk:=lt_of_some h
  unfold getB
  rw [if_pos (by omega)]
  have h1:s[k]? = some c:=by
    have h2:k < s.size:=hk
    have h3:s[k]? = some (s[k]'h2):=by simp [h2]
    rw [h3]
    rw [List.getElem?_eq_getElem hk] at h
    exact h
  simp [h1]
theorem eqS {a b:ByteArray} : (a.toList==b.toList)=decide (a=b):=by
  by_cases h:a=b
  · subst h; simp
  · rw [str_ne h,decide_eq_false h]
def mkB (l:List UInt8):ByteArray:=⟨l.toArray⟩
theorem mkB_data (s:ByteArray):mkB s.data.toList=s:=ba_ext rfl
theorem data_mkB (l:List UInt8):(mkB l).data.toList=l:=rfl
def splitL (c:UInt8):List UInt8→List (List UInt8)
  |[]=>[[]]
  |x :: xs=>if x=c then [] :: splitL c xs else match splitL c xs with
    |[]=>[[x]]
    |y :: ys=>(x :: y) :: ys
theorem splitL_ne (c:UInt8) :∀l,splitL c l ≠ []
  |[]=>by simp [splitL]
  |x :: xs=>by
    unfold splitL
    split
    · simp
    · split <;> simp
theorem splitL_len (c:UInt8) :∀l,(splitL c l).length≤l.length+1
  |[]=>by simp [splitL]
  |x :: xs=>by
    have ih:=splitL_len c xs
    unfold splitL
    split
    · simp; omega
    · split
      · simp
      · rename_i y ys h
        rw [h] at ih
        simp at ih ⊢
        omega
/-- .. each part is no longer than the text. -/
theorem splitL_le (c:UInt8) :∀l,∀p∈splitL c l,p.length≤l.length
  |[],p,h=>by simp [splitL] at h; subst h; simp
  |x :: xs,p,h=>by
    have ih:=splitL_le c xs
    unfold splitL at h
    split at h
    · rcases List.mem_cons.1 h with rfl|h
      · simp
      · have:=ih p h; simp; omega
    · split at h
      · simp at h; subst h; simp
      · rename_i y ys he
        rcases List.mem_cons.1 h with rfl|h
        · have:=ih y (by rw [he]; simp)
          simp; omega
        · have:=ih p (by rw [he]; simp [h])
          simp; omega
theorem split_one (c:UInt8) :∀s:List UInt8,Lib.splitK [c] 0 (Lib.count s [c]) s=splitL c s
  |[]=>by rw [Lib.count_one]; rfl
  |x :: s=>by
    have ih:=split_one c s
    by_cases h:x=c
    · subst h
      rw [Lib.count_cons_eq,Nat.add_comm,Lib.splitK,index_head,if_neg (by decide),splitL,if_pos rfl]
      simp [ih]
    · rw [Lib.count_cons_ne x c s h,splitL,if_neg h]
      cases hn:Lib.count s [c] with
      |zero=>
        rw [hn] at ih
        simp only [Lib.splitK] at ih ⊢
        rw [← ih]
      |succ m=>
        obtain ⟨i,hi⟩:=Lib.index_of_count (s:=s) (old:=[c]) (by omega)
        rw [hn,Lib.splitK,hi,if_neg (by simp <;> omega)] at ih
        rw [Lib.splitK,index_tail h hi,if_neg (by simp <;> omega),← ih]
        simp
def splitS (c:UInt8) (s:ByteArray):List ByteArray:=(splitL c s.data.toList).map mkB
theorem splitS_len (c:UInt8) (s:ByteArray):(splitS c s).length≤s.size+1:=by
  have:=splitL_len c s.data.toList
  rw [splitS,List.length_map]
  exact this
theorem splitS_pos (c:UInt8) (s:ByteArray):1≤(splitS c s).length:=by
  have:=splitL_ne c s.data.toList
  have h:=List.length_pos_iff.2 this
  rw [splitS,List.length_map]
  exact h
theorem splitS_le {c:UInt8} {s p:ByteArray} (h:p∈splitS c s):p.size≤s.size:=by
  obtain ⟨l,hl,rfl⟩:=List.mem_map.1 h
  have:=splitL_le c _ l hl
  rw [ba_size,ba_size]
  exact this
theorem splitB1_one (c:UInt8) (s:ByteArray):splitB1 s (ByteArray.mk #[c])=splitS c s:=by
  have h:=Lib.splitB_data (ByteArray.mk #[c]) 0 (Lib.countB s (ByteArray.mk #[c])) s
  have h2:=split_one c s.data.toList
  have e:(ByteArray.mk #[c]).data.toList=[c]:=rfl
  rw [e] at h
  have h3:(splitB1 s (ByteArray.mk #[c])).map (·.data.toList)=splitL c s.data.toList:=by rw [← h2]; exact h
  unfold splitS
  rw [← h3,List.map_map]
  have:(mkB ∘ fun x:ByteArray=>x.data.toList)=id:=by
    funext x
    exact mkB_data x
  rw [this,List.map_id]
theorem p_split (c:UInt8) (s:ByteArray) (hs:s.size≤1048576):splitM s (ByteArray.mk #[c])=some (splitS c s):=by
  rw [splitM,if_pos ⟨by omega,by rw [sz1]; exact Nat.le_refl _⟩,splitB1_one]
theorem u8_inj {a b:UInt8} : (((a.toNat:Nat):Int)==((b.toNat:Nat):Int))=decide (a=b):=by
  by_cases h:a=b
  · subst h; simp
  · rw [decide_eq_false h]
    have:a.toNat ≠ b.toNat:=fun e=>h (UInt8.toNat_inj.1 e)
    simp
    omega
theorem ext_data (s:ByteArray) (i j:Nat):(s.extract i j).data.toList=(s.data.toList.drop i).take (j - i):=Lib.extract_data s i j
theorem split_L1 (s:ByteArray) (c:UInt8) (hs:s.size≤1048576) :∀(d i f g:Nat) (out:List ByteArray),i+d=s.size→f≤i→d < g→out.length≤i→
    ∃h t,splitL c (s.data.toList.drop i)=h :: t∧m_spec_l11Split_L1 s (c.toNat:Nat) (m_spec_l11Split_A1 s) g out (f:Int) (i:Int)=some (out ++ mkB ((s.data.toList.drop f).take (i - f) ++ h) :: t.map mkB):=by
  intro d
  induction d with
  |zero=>
    intro i f g out hi hf hg ho
    obtain ⟨g,rfl⟩ :∃g',g=g'+1:=⟨g - 1,by omega⟩
    obtain rfl:i=s.size:=by omega
    have hd:s.data.toList.drop s.size=[]:=List.drop_eq_nil_of_le (Nat.le_refl _)
    refine ⟨[],[],by rw [hd]; rfl,?_⟩
    rw [m_spec_l11Split_L1,m_spec_l11Split_B1,dge,cond_false,m_spec_l11Split_A1,subS,if_pos ⟨by omega,by omega,by omega⟩,Option.bind_some,mustP_ok (by simp; omega),Option.bind_some]
    congr 2
    rw [List.map_nil]
    congr 1
    refine ba_ext ?_
    rw [ext_data,data_mkB,List.append_nil]
    simp
  |succ d ih=>
    intro i f g out hi hf hg ho
    obtain ⟨g,rfl⟩ :∃g',g=g'+1:=⟨g - 1,by omega⟩
    have hlt:i < s.data.toList.length:=by rw [← ba_size]; omega
    have hx:=List.getElem?_eq_getElem hlt
    generalize hxc:s.data.toList[i] = x at hx
    have hdr:s.data.toList.drop i=x :: s.data.toList.drop (i+1):=by rw [List.drop_eq_getElem_cons hlt,hxc]
    have hck:ck ((i:Int)+1)=some (((i+1:Nat)):Int):=by rw [ck_ok (by omega)]; rfl
    rw [m_spec_l11Split_L1,m_spec_l11Split_B1,decide_eq_true (show (i:Int) < (s.size:Int) by omega),cond_true,getB_at hx,Option.bind_some,u8_inj]
    by_cases hc:x=c
    · rw [decide_eq_true hc,cond_true,subS,if_pos ⟨by omega,by omega,by omega⟩,Option.bind_some,mustP_ok (by simp; omega),Option.bind_some,hck,Option.bind_some,Option.bind_some]
      obtain ⟨h,t,e1,e2⟩:=ih (i+1) (i+1) g (out ++ [s.extract (f:Int).toNat (i:Int).toNat]) (by omega) (Nat.le_refl _) (by omega) (by simp; omega)
      refine ⟨[],h :: t,by rw [hdr,splitL,if_pos hc,e1],?_⟩
      have q1:s.extract (f:Int).toNat (i:Int).toNat=mkB ((s.data.toList.drop f).take (i - f) ++ []):=by
        refine ba_ext ?_
        rw [ext_data,data_mkB,List.append_nil]
        rfl
      rw [e2,q1]
      simp
    · rw [decide_eq_false hc,cond_false,hck,Option.bind_some]
      obtain ⟨h,t,e1,e2⟩:=ih (i+1) f g out (by omega) (by omega) (by omega) (by omega)
      refine ⟨x :: h,t,by rw [hdr,splitL,if_neg hc,e1],?_⟩
      have hdf:f+(i - f)=i:=by omega
      have h3:(s.data.toList.drop f)[i - f]? = some x:=by rw [List.getElem?_drop,hdf]; exact hx
      have q2:(s.data.toList.drop f).take (i+1 - f) ++ h=(s.data.toList.drop f).take (i - f) ++ x :: h:=by
        rw [show i+1 - f=(i - f)+1 by omega,take_succ_some h3,List.append_assoc]
        rfl
      rw [e2,q2]
theorem p_sSplit (c:UInt8) (s:ByteArray) (hs:s.size≤1048576):m_spec_l11Split s (c.toNat:Nat)=some (splitS c s):=by
  unfold m_spec_l11Split
  obtain ⟨h,t,e1,e2⟩:=split_L1 s c hs s.size 0 0 (s.size+1) [] (by omega) (Nat.le_refl _) (by omega) (by simp)
  rw [List.drop_zero] at e1
  have e2':m_spec_l11Split_L1 s (c.toNat:Nat) (m_spec_l11Split_A1 s) (s.size+1) ([] : List ByteArray) 0 0=_:=e2
  rw [e2',splitS,e1]
  simp
end
section
open Go.RowKit Go.Sort
/-- What digits spell, behind acc. -/
def valL (acc:Nat) (l:List UInt8):Nat:=l.foldl (fun a c=>a * 10+(c.toNat - 48)) acc
def isDig (c:UInt8):Prop:=48≤c.toNat∧c.toNat≤57
instance (c:UInt8):Decidable (isDig c):=inferInstanceAs (Decidable (_∧_))
theorem valL_le :∀(l:List UInt8) (acc:Nat),acc≤valL acc l
  |[],acc=>Nat.le_refl _
  |c :: l,acc=>by
    have:=valL_le l (acc * 10+(c.toNat - 48))
    simp only [valL,List.foldl_cons] at this ⊢
    omega
theorem valL_dec :∀(u:Nat),valL 0 (Lib.decDigits u)=u:=by
  intro u
  induction u using Nat.strongRecOn with
  |ind u ih=>
    have hd :∀d:Nat,d < 10→(UInt8.ofNat (48+d)).toNat - 48=d:=fun d h=>by
      rw [UInt8.toNat_ofNat',Nat.mod_eq_of_lt (by omega)]
      omega
    rw [Lib.decDigits]
    by_cases h1:u < 10
    · rw [dif_pos h1]
      simp only [valL,List.foldl_cons,List.foldl_nil,hd u h1]
      omega
    · rw [dif_neg h1,valL,List.foldl_append]
      have h2:=ih (u / 10) (by omega)
      unfold valL at h2
      rw [h2]
      simp only [List.foldl_cons,List.foldl_nil,hd (u % 10) (by omega)]
      omega
theorem dec_ne (u:Nat):Lib.decDigits u ≠ []:=by
  rw [Lib.decDigits]
  split
  · simp
  · simp
theorem dec_dig (u:Nat) :∀c∈Lib.decDigits u,isDig c:=fun c h=>decDigits_mem u c h
theorem itoaB_inj {m n:Int} (h:itoaB m=itoaB n):m=n:=by
  have h1:Lib.itoa m=Lib.itoa n:=by
    have:=congrArg (·.data.toList) h
    simpa [itoaB] using this
  have h45 :∀u:Nat,∀r,Lib.decDigits u ≠ 45 :: r:=fun u r e=>by
    have:=dec_dig u 45 (by rw [e]; simp)
    have:=this.1
    simp at this
  unfold Lib.itoa at h1
  split at h1 <;> split at h1
  · have h2:=(List.cons.inj h1).2
    have:=valL_dec m.natAbs
    rw [h2,valL_dec] at this
    omega
  · exact absurd h1.symm (h45 _ _)
  · exact absurd h1 (h45 _ _)
  · have:=valL_dec m.toNat
    rw [h1,valL_dec] at this
    omega
open Classical in
/-- The number that a text is the decimal form of. -/
noncomputable def rdD (s:ByteArray):Option Int:=if h :∃n:Int,int32B n=true∧itoaB n=s then some h.choose else none
theorem rdD_some {s:ByteArray} {n:Int} (h1:int32B n=true) (h2:itoaB n=s):rdD s=some n:=by
  unfold rdD
  have h :∃n:Int,int32B n=true∧itoaB n=s:=⟨n,h1,h2⟩
  rw [dif_pos h]
  congr 1
  exact itoaB_inj (h.choose_spec.2.trans h2.symm)
theorem rdD_none {s:ByteArray} (h :∀n,int32B n=true→itoaB n ≠ s):rdD s=none:=by
  unfold rdD
  rw [dif_neg (fun ⟨n,h1,h2⟩=>h n h1 h2)]
theorem rdD_spec {s:ByteArray} {n:Int} (h:rdD s=some n):int32B n=true∧itoaB n=s:=by
  unfold rdD at h
  split at h
  · rename_i hx
    injection h with h
    subst h
    exact hx.choose_spec
  · cases h
def pack (r:Option Int):Int × Bool:=match r with|some n=>(n,true)|none=>(0,false)
theorem parseU_ok (M:Nat) (hM:M≤18446744073709551615) :∀(l:List UInt8) (acc:Nat),(∀c∈l,isDig c)→valL acc l≤M→Lib.parseUintM M acc l=.ok (valL acc l)
  |[],acc,_,_=>rfl
  |c :: l,acc,hd,hv=>by
    have h1:=hd c (by simp)
    have h2:=valL_le l (acc * 10+(c.toNat - 48))
    have hv':valL (acc * 10+(c.toNat - 48)) l≤M:=hv
    have ih:=parseU_ok M hM l (acc * 10+(c.toNat - 48)) (fun x hx=>hd x (by simp [hx])) hv'
    have h1':48≤c.toNat∧c.toNat≤57:=h1
    rw [Lib.parseUintM,if_pos h1',if_neg (by omega),if_neg (by omega),ih]
    rfl
theorem parse_itoa {n:Int} (h:int32B n=true):Lib.parseIntB 64 (Lib.itoa n)=.ok n:=by
  have hb:-2147483648≤n∧n≤2147483647:=by unfold int32B at h; simp at h; exact h
  have hu :∀u:Nat,u≤2147483648→Lib.parseUintB 64 (Lib.decDigits u)=.ok u:=fun u hu=>by
    rw [Lib.parseUintB,if_neg (dec_ne u),parseU_ok _ (by decide) _ _ (dec_dig u) (by rw [valL_dec]; omega),valL_dec]
  unfold Lib.itoa
  split
  · rw [Lib.parseIntB_minus,hu _ (by omega),Lib.signedC,if_neg (by omega)]
    congr 1
    omega
  · cases hx:Lib.decDigits n.toNat with
    |nil=>exact absurd hx (dec_ne _)
    |cons c r=>
      have hc:=dec_dig n.toNat c (by rw [hx]; simp)
      rw [Lib.parseIntB_plain 64 c r (by have:=hc.1; omega) (by have:=hc.1; omega),← hx,hu _ (by omega),Lib.signlessC,if_neg (by omega)]
      congr 1
      omega
theorem p_iReadD (s:ByteArray) (hs:s.size≤1048576):m_impl_ReadDecimal s=some (pack (rdD s)):=by
  unfold m_impl_ReadDecimal
  rw [parseM,if_pos ⟨rfl,rfl,by omega⟩,Option.bind_some,parseB]
  have none_of:(∀n,int32B n=true→Lib.parseIntB 64 s.data.toList ≠ .ok n)→rdD s=none:=fun h=>rdD_none (fun n h1 h2=>h n h1 (by rw [← h2]; exact parse_itoa h1))
  cases hp:Lib.parseIntB 64 s.data.toList with
  |range=>rw [none_of (fun n _=>by rw [hp]; simp)]; rfl
  |ok v=>
    have hv:=Lib.parseIntB_bounds hp
    have hv':-9223372036854775808≤v∧v≤9223372036854775807:=by
      have e:(2 ^ (64 - 1):Nat)=9223372036854775808:=by decide
      rw [e] at hv
      omega
    simp only [cond_false]
    rw [p_isInt,Option.bind_some]
    by_cases h1:int32B v=true
    · rw [h1,cond_true,p_iDecimal hv',Option.bind_some,eqS]
      by_cases h2:itoaB v=s
      · rw [decide_eq_true h2,cond_true,rdD_some h1 h2]; rfl
      · rw [decide_eq_false h2,cond_false,rdD_none (fun n h3 h4=>by
          have:=parse_itoa h3
          have e:Lib.itoa n=s.data.toList:=by rw [← h4]; rfl
          rw [e,hp] at this
          injection this with this
          subst this
          exact h2 h4)]
        rfl
    · rw [show int32B v=false by simpa using h1,cond_false,none_of (fun n h3 h4=>by
        rw [hp] at h4
        injection h4 with h4
        subst h4
        exact h1 h3)]
      rfl
  |_=>rw [none_of (fun n _=>by rw [hp]; simp)]; rfl
/-- The digits of a text, read one by one. -/
def scanD:List UInt8→Nat→Option Nat
  |[],acc=>some acc
  |c :: r,acc=>if isDig c then scanD r (acc * 10+(c.toNat - 48)) else none
theorem scanD_ok :∀(l:List UInt8) (acc:Nat),(∀c∈l,isDig c)→scanD l acc=some (valL acc l)
  |[],acc,_=>rfl
  |c :: l,acc,h=>by
    rw [scanD,if_pos (h c (by simp)),scanD_ok l _ (fun x hx=>h x (by simp [hx]))]
    rfl
theorem scanD_lt :∀(l:List UInt8) (acc k v:Nat),acc < 10 ^ k→scanD l acc=some v→v < 10 ^ (k+l.length)
  |[],acc,k,v,h,e=>by simp [scanD] at e; subst e; simpa using h
  |c :: l,acc,k,v,h,e=>by
    rw [scanD] at e
    split at e
    · rename_i hd
      have:=scanD_lt l (acc * 10+(c.toNat - 48)) (k+1) v (by rw [Nat.pow_succ]; have:=hd.2; omega) e
      rw [List.length_cons,show k+(l.length+1)=k+1+l.length by omega]
      exact this
    · cases e
theorem p_digit8 (c:UInt8):m_spec_l01Digit ((c.toNat:Nat):Int)=some (decide (isDig c)):=by
  unfold m_spec_l01Digit
  by_cases h:48≤c.toNat
  · rw [decide_eq_true (by omega:((c.toNat:Nat):Int) ≥ 48),cond_true]
    congr 1
    by_cases h2:c.toNat≤57
    · rw [decide_eq_true (show ((c.toNat:Nat):Int)≤57 by omega),decide_eq_true (show isDig c from ⟨h,h2⟩)]
    · rw [decide_eq_false (show ¬ ((c.toNat:Nat):Int)≤57 by omega),decide_eq_false (show ¬ isDig c from fun x=>h2 x.2)]
  · rw [decide_eq_false (by omega:¬ ((c.toNat:Nat):Int) ≥ 48),cond_false,decide_eq_false (show ¬ isDig c from fun x=>h x.1)]
theorem u8w_sub {c:UInt8} (h:isDig c):u8w (((c.toNat:Nat):Int) - 48)=((c.toNat - 48:Nat):Int):=by
  have h1:=h.1
  have h2:=h.2
  have e:((c.toNat:Nat):Int) - 48=((c.toNat - 48:Nat):Int):=by omega
  rw [e]
  unfold u8w IntKind.wrap
  have:((c.toNat - 48:Nat):Int) < 256:=by omega
  simp [IntKind.signed,IntKind.bits]
  omega
theorem rdec_L1 (s:ByteArray) (hs:s.size≤11) :∀(d i g acc:Nat),i+d=s.size→d < g→acc < 10 ^ i→(i=0→∀c,s.data.toList[0]? = some c→c ≠ 45)→
    m_spec_ReadDecimal_L1 s (m_spec_ReadDecimal_A1 s) g (acc:Int) (i:Int)=match scanD (s.data.toList.drop i) acc with|some v=>m_spec_ReadDecimal_A1 s (v:Int)|none=>some (0,false):=by
  intro d
  induction d with
  |zero=>
    intro i g acc hi hg ha h0
    obtain ⟨g,rfl⟩ :∃g',g=g'+1:=⟨g - 1,by omega⟩
    obtain rfl:i=s.size:=by omega
    have hd:s.data.toList.drop s.size=[]:=List.drop_eq_nil_of_le (Nat.le_refl _)
    rw [m_spec_ReadDecimal_L1,m_spec_ReadDecimal_B1,dge,cond_false,hd]
    rfl
  |succ d ih=>
    intro i g acc hi hg ha h0
    obtain ⟨g,rfl⟩ :∃g',g=g'+1:=⟨g - 1,by omega⟩
    have hlt:i < s.data.toList.length:=by rw [← ba_size]; omega
    have hx:=List.getElem?_eq_getElem hlt
    generalize hxc:s.data.toList[i] = x at hx
    have hdr:s.data.toList.drop i=x :: s.data.toList.drop (i+1):=by rw [List.drop_eq_getElem_cons hlt,hxc]
    have hck:ck ((i:Int)+1)=some (((i+1:Nat)):Int):=by rw [ck_ok (by omega)]; rfl
    have hp11:(10:Nat) ^ i≤10 ^ 10:=Nat.pow_le_pow_right (by decide) (by omega)
    have hbig:acc < 10 ^ 10:=Nat.lt_of_lt_of_le ha hp11
    have step:(bif (decide (isDig x)) then ((ck ((acc:Int) * 10)).bind fun s55=>((getB s (i:Int)).bind fun x56=>((ck (u8w (x56 - 48))).bind fun s58=>((ck (s55+s58)).bind fun s60=>((ck ((i:Int)+1)).bind fun s61=>(m_spec_ReadDecimal_L1 s (m_spec_ReadDecimal_A1 s) g s60 s61)))))) else some (0,false)) =
        (match scanD (s.data.toList.drop i) acc with|some v=>m_spec_ReadDecimal_A1 s (v:Int)|none=>some (0,false)):=by
      rw [hdr,scanD]
      by_cases hd:isDig x
      · have h9:=hd.2
        rw [decide_eq_true hd,cond_true,if_pos hd,ck_ok (by omega),Option.bind_some,getB_at hx,Option.bind_some,u8w_sub hd,ck_ok (by omega),Option.bind_some,ck_ok (by omega),Option.bind_some,hck,Option.bind_some]
        have:=ih (i+1) g (acc * 10+(x.toNat - 48)) (by omega) (by omega) (by rw [Nat.pow_succ]; omega) (by omega)
        rw [← this]
        congr 1
      · rw [decide_eq_false hd,cond_false,if_neg hd]
    rw [m_spec_ReadDecimal_L1,m_spec_ReadDecimal_B1,decide_eq_true (show (i:Int) < (s.size:Int) by omega),cond_true]
    by_cases hi0:i=0
    · subst hi0
      have hne:(((x.toNat:Nat):Int)==45)=false:=by
        have:=h0 rfl x hx
        have h2:x.toNat ≠ 45:=fun e=>this (UInt8.toNat_inj.1 e)
        simp
        omega
      rw [show (((0:Nat):Int)==0)=true from rfl,cond_true,getB_at hx,Option.bind_some,hne,cond_false,Option.bind_some,p_digit8,Option.bind_some]
      rw [getB_at hx] at step
      exact step
    · rw [show ((i:Int)==0)=false by simp; omega,cond_false,getB_at hx,Option.bind_some,p_digit8,Option.bind_some]
      rw [getB_at hx] at step
      exact step
/-- Behind the digits: the sign, and the check. -/
theorem rdec_A1 (s:ByteArray) (v:Nat) (hv:v < 10 ^ 11) (c:UInt8) (hc:s.data.toList[0]? = some c) (hall :∀n,int32B n=true→itoaB n=s→n=(if c=45 then -(v:Int) else (v:Int))) :
    m_spec_ReadDecimal_A1 s (v:Int)=some (pack (rdD s)):=by
  have fin :∀n:Int,okI n→(∀m,int32B m=true→itoaB m=s→m=n)→(bif (inR n (-2147483648) 2147483647) then ((m_spec_Decimal n).bind fun y=>(bif (y.toList==s.toList) then some (n,true) else some (0,false))) else some (0,false))=some (pack (rdD s)):=fun n ho hm=>by
    have hin:inR n (-2147483648) 2147483647=int32B n:=rfl
    rw [hin]
    by_cases h1:int32B n=true
    · rw [h1,cond_true,p_sDecimal _ ho.1 ho.2,Option.bind_some,eqS]
      by_cases h2:itoaB n=s
      · rw [decide_eq_true h2,cond_true,rdD_some h1 h2]; rfl
      · rw [decide_eq_false h2,cond_false,rdD_none (fun m h3 h4=>by have:=hm m h3 h4; subst this; exact h2 h4)]; rfl
    · rw [show int32B n=false by simpa using h1,cond_false,rdD_none (fun m h3 h4=>by have:=hm m h3 h4; subst this; exact h1 h3)]; rfl
  rw [m_spec_ReadDecimal_A1,show getB s 0=some _ from getB_at (k:=0) hc,Option.bind_some]
  by_cases h:c=45
  · rw [show (((c.toNat:Nat):Int)==45)=true by rw [h]; rfl,cond_true,negI_ok (by omega),Option.bind_some]
    exact fin _ ⟨by omega,by omega⟩ (fun m h1 h2=>by have:=hall m h1 h2; rw [if_pos h] at this; exact this)
  · have:(((c.toNat:Nat):Int)==45)=false:=by
      have h2:c.toNat ≠ 45:=fun e=>h (UInt8.toNat_inj.1 e)
      simp
      omega
    rw [this,cond_false]
    exact fin _ ⟨by omega,by omega⟩ (fun m h1 h2=>by have:=hall m h1 h2; rw [if_neg h] at this; exact this)
theorem itoa32_len {n:Int} (h:int32B n=true):(itoaB n).size≤11:=by
  have hb:-2147483648≤n∧n≤2147483647:=by unfold int32B at h; simp at h; exact h
  have hd :∀u:Nat,u≤2147483648→(Lib.decDigits u).length≤10:=fun u hu=>by
    rw [Lib.decDigits_length]
    have key :∀k v:Nat,v < 10 ^ (k+1)→Lib.nDigits v≤k+1:=by
      intro k
      induction k with
      |zero=>intro v hv; rw [Lib.nDigits_small (by simpa using hv)]; omega
      |succ k ih=>
        intro v hv
        by_cases h10:v < 10
        · rw [Lib.nDigits_small h10]; omega
        · rw [Lib.nDigits_big h10]
          have:=ih (v / 10) (by rw [Nat.pow_succ] at hv; omega)
          omega
    exact key 9 u (by omega)
  show (Lib.itoa n).toArray.size≤11
  rw [List.size_toArray]
  unfold Lib.itoa
  split
  · rw [List.length_cons]
    have:=hd n.natAbs (by omega)
    omega
  · have:=hd n.toNat (by omega)
    omega
theorem p_sReadD (s:ByteArray):m_spec_ReadDecimal s=some (pack (rdD s)):=by
  have none_len:¬ (1≤s.size∧s.size≤11)→rdD s=none:=fun h=>rdD_none (fun n h1 h2=>h (by
    rw [← h2]
    refine ⟨?_,itoa32_len h1⟩
    show 1≤(Lib.itoa n).toArray.size
    rw [List.size_toArray]
    unfold Lib.itoa
    split
    · simp
    · exact List.length_pos_iff.2 (dec_ne _)))
  unfold m_spec_ReadDecimal
  by_cases h1:1≤s.size
  · rw [decide_eq_false (show ¬ (s.size:Int) < 1 by omega),cond_false]
    by_cases h2:s.size≤11
    · rw [decide_eq_false (show ¬ (s.size:Int) > 11 by omega),cond_false]
      have hlt:0 < s.data.toList.length:=by rw [← ba_size]; omega
      have hx:=List.getElem?_eq_getElem hlt
      generalize hxc:s.data.toList[0] = c at hx
      have hdr:s.data.toList=c :: s.data.toList.drop 1:=by
        have:=List.drop_eq_getElem_cons hlt
        rw [List.drop_zero,hxc] at this
        exact this
      have hdl:(s.data.toList.drop 1).length=s.size - 1:=by rw [List.length_drop,← ba_size]
      by_cases hc:c=45
      · -- the sign
        have hck:ck (((0:Nat):Int)+1)=some (((1:Nat)):Int):=rfl
        have e:m_spec_ReadDecimal_L1 s (m_spec_ReadDecimal_A1 s) (s.size+1) 0 0=m_spec_ReadDecimal_L1 s (m_spec_ReadDecimal_A1 s) s.size ((0:Nat):Int) ((1:Nat):Int):=by
          rw [m_spec_ReadDecimal_L1,m_spec_ReadDecimal_B1,decide_eq_true (show (0:Int) < (s.size:Int) by omega),cond_true,show ((0:Int)==0)=true from rfl,cond_true,show getB s 0=some _ from getB_at (k:=0) hx,Option.bind_some,
            show (((c.toNat:Nat):Int)==45)=true by rw [hc]; rfl,cond_true]
          rfl
        rw [e,rdec_L1 s h2 (s.size - 1) 1 s.size 0 (by omega) (by omega) (by decide) (by omega)]
        have hof :∀n,int32B n=true→itoaB n=s→n < 0∧s.data.toList.drop 1=Lib.decDigits n.natAbs:=fun n h3 h4=>by
          have e1:Lib.itoa n=s.data.toList:=by rw [← h4]; rfl
          rw [hdr,hc] at e1
          unfold Lib.itoa at e1
          split at e1
          · rename_i hn
            exact ⟨hn,(List.cons.inj e1).2.symm⟩
          · have:=dec_dig n.toNat 45 (by rw [e1]; simp)
            have:=this.1
            simp at this
        cases hsc:scanD (s.data.toList.drop 1) 0 with
        |none=>
          simp only
          rw [rdD_none (fun n h3 h4=>by
            have:=(hof n h3 h4).2
            rw [this,scanD_ok _ _ (dec_dig _)] at hsc
            cases hsc)]
          rfl
        |some v=>
          simp only
          have hv:=scanD_lt _ _ 0 _ (by decide) hsc
          rw [hdl] at hv
          have hv':v < 10 ^ 11:=Nat.lt_of_lt_of_le hv (Nat.pow_le_pow_right (by decide) (by omega))
          refine rdec_A1 s v hv' c hx (fun n h3 h4=>?_)
          obtain ⟨hn,hd⟩:=hof n h3 h4
          rw [hd,scanD_ok _ _ (dec_dig _),valL_dec] at hsc
          injection hsc with hsc
          rw [if_pos hc]
          omega
      · have h00:m_spec_ReadDecimal_L1 s (m_spec_ReadDecimal_A1 s) (s.size+1) 0 0=_:=rdec_L1 s h2 s.size 0 (s.size+1) 0 (by omega) (by omega) (by decide) (fun _ x hx'=>by rw [hx] at hx'; injection hx' with hx'; rw [← hx']; exact hc)
        rw [h00,List.drop_zero]
        have hof :∀n,int32B n=true→itoaB n=s→0≤n∧s.data.toList=Lib.decDigits n.toNat:=fun n h3 h4=>by
          have e1:Lib.itoa n=s.data.toList:=by rw [← h4]; rfl
          unfold Lib.itoa at e1
          split at e1
          · rw [hdr] at e1
            exact absurd (List.cons.inj e1).1.symm hc
          · exact ⟨by omega,e1.symm⟩
        cases hsc:scanD s.data.toList 0 with
        |none=>
          simp only
          rw [rdD_none (fun n h3 h4=>by
            have:=(hof n h3 h4).2
            rw [this,scanD_ok _ _ (dec_dig _)] at hsc
            cases hsc)]
          rfl
        |some v=>
          simp only
          have hv:=scanD_lt _ _ 0 _ (by decide) hsc
          rw [← ba_size] at hv
          have hv':v < 10 ^ 11:=Nat.lt_of_lt_of_le hv (Nat.pow_le_pow_right (by decide) (by omega))
          refine rdec_A1 s v hv' c hx (fun n h3 h4=>?_)
          obtain ⟨hn,hd⟩:=hof n h3 h4
          rw [hd,scanD_ok _ _ (dec_dig _),valL_dec] at hsc
          injection hsc with hsc
          rw [if_neg hc]
          omega
    · rw [decide_eq_true (show (s.size:Int) > 11 by omega),cond_true,none_len (fun h=>h2 h.2)]
      rfl
  · rw [decide_eq_true (show (s.size:Int) < 1 by omega),cond_true,none_len (fun h=>h1 h.1)]
    rfl
def opOf (s:ByteArray):Int:=bif (ByteArray.mk #[43]).toList==s.toList then 1 else bif (ByteArray.mk #[45]).toList==s.toList then 2 else bif (ByteArray.mk #[42]).toList==s.toList then 3 else bif (ByteArray.mk #[47]).toList==s.toList then 4 else bif (ByteArray.mk #[60]).toList==s.toList then 5 else bif (ByteArray.mk #[61]).toList==s.toList then 6 else 0
theorem p_sOpOf (s:ByteArray):m_spec_OperatorOf s=some (opOf s):=by
  have st :∀(g k:Nat) (x:ByteArray),k < 6→([(ByteArray.mk #[43]),(ByteArray.mk #[45]),(ByteArray.mk #[42]),(ByteArray.mk #[47]),(ByteArray.mk #[60]),(ByteArray.mk #[61])] : List ByteArray)[k]? = some x→
      m_spec_OperatorOf_L1 s m_spec_OperatorOf_A1 (g+1) (k:Int)=bif x.toList==s.toList then some ((k:Int)+1) else m_spec_OperatorOf_L1 s m_spec_OperatorOf_A1 g ((k:Int)+1):=fun g k x hk hx=>by
    rw [m_spec_OperatorOf_L1,m_spec_OperatorOf_B1,m_spec_l01Operators,Option.bind_some,decide_eq_true (show (k:Int) < _ by simp; omega),cond_true,Option.bind_some,getI_ok hx,Option.bind_some]
  have en :∀g:Nat,m_spec_OperatorOf_L1 s m_spec_OperatorOf_A1 (g+1) 6=some 0:=fun g=>rfl
  unfold m_spec_OperatorOf opOf
  have e0:=st 7 0 _ (by decide) rfl
  have e1:=st 6 1 _ (by decide) rfl
  have e2:=st 5 2 _ (by decide) rfl
  have e3:=st 4 3 _ (by decide) rfl
  have e4:=st 3 4 _ (by decide) rfl
  have e5:=st 2 5 _ (by decide) rfl
  have e6:=en 1
  simp only [Int.cast_ofNat_Int,Int.reduceAdd,Nat.reduceAdd,Int.zero_add] at e0 e1 e2 e3 e4 e5 e6
  rw [e0,e1,e2,e3,e4,e5,e6]
  cases (ByteArray.mk #[43]).toList==s.toList <;> cases (ByteArray.mk #[45]).toList==s.toList <;> cases (ByteArray.mk #[42]).toList==s.toList <;> cases (ByteArray.mk #[47]).toList==s.toList <;> cases (ByteArray.mk #[60]).toList==s.toList <;> cases (ByteArray.mk #[61]).toList==s.toList <;> rfl
theorem p_iOpOf (s:ByteArray):m_impl_OperatorOf s=some (opOf s):=by
  have st :∀(g k:Nat),1≤k→k≤6→m_impl_OperatorOf_L1 s m_impl_OperatorOf_A1 (g+1) (k:Int)=bif (opT k).toList==s.toList then some (k:Int) else m_impl_OperatorOf_L1 s m_impl_OperatorOf_A1 g ((k+1:Nat):Int):=fun g k h1 hk=>by
    rw [m_impl_OperatorOf_L1,m_impl_OperatorOf_B1,decide_eq_true (show (k:Int)≤6 by omega),cond_true,p_iOper (by unfold operB; simp; omega),Option.bind_some,ck_ok (by omega),Option.bind_some]
    rfl
  have en :∀g:Nat,m_impl_OperatorOf_L1 s m_impl_OperatorOf_A1 (g+1) ((7:Nat):Int)=some 0:=fun g=>rfl
  unfold m_impl_OperatorOf opOf
  have e1:m_impl_OperatorOf_L1 s m_impl_OperatorOf_A1 8 1=_:=st 7 1 (by decide) (by decide)
  rw [e1,st 6 2 (by decide) (by decide),st 5 3 (by decide) (by decide),st 4 4 (by decide) (by decide),st 3 5 (by decide) (by decide),st 2 6 (by decide) (by decide),en 1]
  have q1:opT ((1:Nat):Int)=ByteArray.mk #[43]:=rfl
  have q2:opT ((2:Nat):Int)=ByteArray.mk #[45]:=rfl
  have q3:opT ((3:Nat):Int)=ByteArray.mk #[42]:=rfl
  have q4:opT ((4:Nat):Int)=ByteArray.mk #[47]:=rfl
  have q5:opT ((5:Nat):Int)=ByteArray.mk #[60]:=rfl
  have q6:opT ((6:Nat):Int)=ByteArray.mk #[61]:=rfl
  rw [q1,q2,q3,q4,q5,q6]
  cases (ByteArray.mk #[43]).toList==s.toList <;> cases (ByteArray.mk #[45]).toList==s.toList <;> cases (ByteArray.mk #[42]).toList==s.toList <;> cases (ByteArray.mk #[47]).toList==s.toList <;> cases (ByteArray.mk #[60]).toList==s.toList <;> cases (ByteArray.mk #[61]).toList==s.toList <;> rfl
end
section
open Go.RowKit Go.Sort
def mapO {α β:Type} (f:α→Option β):List α→Option (List β)
  |[]=>some []
  |x :: xs=>match f x with
    |none=>none
    |some y=>(mapO f xs).map (y :: ·)
theorem mapO_len {α β:Type} {f:α→Option β} :∀{xs:List α} {ys:List β},mapO f xs=some ys→ys.length=xs.length
  |[],ys,h=>by injection h with h; subst h; rfl
  |x :: xs,ys,h=>by
    rw [mapO] at h
    cases hf:f x with
    |none=>rw [hf] at h; cases h
    |some y=>
      rw [hf] at h
      obtain ⟨zs,hz,rfl⟩:=Option.map_eq_some_iff.1 h
      simp [mapO_len hz]
theorem index_miss {a c:UInt8} {s:List UInt8} (h:c ≠ a) (hi:Lib.index s [a] = -1):Lib.index (c :: s) [a] = -1:=by
  have hp:([a] : List UInt8).isPrefixOf (c :: s)=false:=by simp [List.isPrefixOf,Ne.symm h]
  rw [Lib.index,hp,hi]
  simp
theorem splitL_at (c:UInt8) :∀l:List UInt8,(Lib.index l [c] = -1∧splitL c l=[l]) ∨ (∃i:Nat,Lib.index l [c] = i∧i < l.length∧splitL c l=l.take i :: splitL c (l.drop (i+1)))
  |[]=>.inl ⟨rfl,rfl⟩
  |x :: l=>by
    by_cases h:x=c
    · subst h
      exact .inr ⟨0,index_head x l,by simp,by rw [splitL,if_pos rfl]; rfl⟩
    · rcases splitL_at c l with ⟨h1,h2⟩|⟨i,h1,h2,h3⟩
      · exact .inl ⟨index_miss h h1,by rw [splitL,if_neg h,h2]⟩
      · exact .inr ⟨i+1,index_tail h h1,by simp; omega,by rw [splitL,if_neg h,h3]; rfl⟩
theorem cut_cases (c:UInt8) (s:ByteArray):(cutB1 s (ByteArray.mk #[c])=(s,ByteArray.mk #[],false)∧splitS c s=[s]) ∨ (∃a b,cutB1 s (ByteArray.mk #[c])=(a,b,true)∧splitS c s=a :: splitS c b∧a.size+b.size < s.size):=by
  have e:(ByteArray.mk #[c]).data.toList=[c]:=rfl
  rcases splitL_at c s.data.toList with ⟨h1,h2⟩|⟨i,h1,h2,h3⟩
  · refine .inl ⟨?_,by rw [splitS,h2]; simp [mkB_data]⟩
    unfold cutB1 Lib.cut
    rw [e,h1,if_neg (by decide)]
    try exact Prod.ext (mkB_data s) rfl
  · refine .inr ⟨mkB (s.data.toList.take i),mkB (s.data.toList.drop (i+1)),?_,by rw [splitS,h3]; rfl,?_⟩
    · unfold cutB1 Lib.cut
      rw [e,h1,if_pos (by omega)]
      try rfl
    · rw [ba_size,ba_size,ba_size,data_mkB,data_mkB,List.length_take,List.length_drop]
      omega
theorem p_cut (c:UInt8) (s:ByteArray) (hs:s.size≤1048576):cutM s (ByteArray.mk #[c])=some (cutB1 s (ByteArray.mk #[c])):=by
  rw [cutM,if_pos (by omega)]
/-- A decimal form holds digits and a sign. -/
theorem rdD_mem {s:ByteArray} {n:Int} (h:rdD s=some n) :∀c∈s.data.toList,c.toNat=45 ∨ (48≤c.toNat∧c.toNat≤57):=fun c hc=>by
  have h2:=(rdD_spec h).2
  rw [← h2] at hc
  exact itoa_mem hc
theorem index_mem {c:UInt8} {l:List UInt8} {i:Nat} (h:Lib.index l [c] = i) (hi:i < l.length):c∈l:=by
  induction l generalizing i with
  |nil=>simp at hi
  |cons x l ih=>
    by_cases hx:x=c
    · subst hx; simp
    · rcases splitL_at c l with ⟨h1,_⟩|⟨j,h1,h2,_⟩
      · rw [index_miss hx h1] at h; omega
      · exact List.mem_cons_of_mem _ (ih h1 h2)
theorem p_iNums (c:UInt8) (s:ByteArray) (hs:s.size≤1048576):m_impl_readNumbers s (ByteArray.mk #[c])=some (match mapO rdD (splitS c s) with|some d=>(d,true)|none=>([],false)):=by
  unfold m_impl_readNumbers
  rw [p_split c s hs,Option.bind_some]
  have hl:=splitS_len c s
  have key :∀(d i g:Nat) (acc:List Int),i+d=(splitS c s).length→d < g→acc.length≤i→m_impl_readNumbers_L1 (splitS c s) m_impl_readNumbers_A1 g acc (i:Int)=some (match mapO rdD ((splitS c s).drop i) with|some ds=>(acc ++ ds,true)|none=>([],false)):=by
    intro d
    induction d with
    |zero=>
      intro i g acc hi hg ha
      obtain ⟨g,rfl⟩ :∃g',g=g'+1:=⟨g - 1,by omega⟩
      obtain rfl:i=(splitS c s).length:=by omega
      rw [m_impl_readNumbers_L1,m_impl_readNumbers_B1,dge,cond_false,m_impl_readNumbers_A1,List.drop_eq_nil_of_le (Nat.le_refl _)]
      simp [mapO]
    |succ d ih=>
      intro i g acc hi hg ha
      obtain ⟨g,rfl⟩ :∃g',g=g'+1:=⟨g - 1,by omega⟩
      have hlt:i < (splitS c s).length:=by omega
      have hx:=List.getElem?_eq_getElem hlt
      have hp:=splitS_le (List.getElem_mem hlt)
      rw [m_impl_readNumbers_L1,m_impl_readNumbers_B1,dlt hlt,cond_true,getI_lt hlt,Option.bind_some,p_iReadD _ (by omega),Option.bind_some,List.drop_eq_getElem_cons hlt,mapO]
      cases hr:rdD (splitS c s)[i] with
      |none=>rfl
      |some n=>
        simp only [pack,cond_true]
        rw [mustP_ok (by simp; omega),Option.bind_some]
        have:=ih (i+1) g (acc ++ [n]) (by omega) (by omega) (by simp; omega)
        have e:((i+1:Nat):Int)=(i:Int)+1:=rfl
        rw [← e,this]
        cases mapO rdD ((splitS c s).drop (i+1)) with
        |none=>rfl
        |some ds=>simp
  have:=key (splitS c s).length 0 ((splitS c s).length+1) [] (by omega) (by omega) (by simp)
  rw [List.drop_zero] at this
  exact this
/-- What stands behind the sign of equality. -/
noncomputable def rdC (k v0:Int) (s:ByteArray):Option (Int × List Int):=
  if k=6 ∨ k=9 ∨ k=12 then (rdD s).map fun n=>(n,[])
  else if k=7 ∨ k=8 then (match splitS 44 s with|[]=>none|p :: ps=>(mapO rdD ps).map fun d=>(opOf p,d))
  else (mapO rdD (splitS 44 s)).map fun d=>(v0,d)
def AgrC (m:Option (Bool × DAgent)) (k l:Int) (r:Option (Int × List Int)):Prop:=match r with
  |some p=>m=some (true,⟨k,l,p.1,p.2,[]⟩)
  |none=>∃z,m=some (false,z)
theorem sCont1 (y:List ByteArray) (hy:y.length≤1048577) :∀(d i g:Nat) (z:DAgent),i+d=y.length→d < g→z.data.length≤i→
    match mapO rdD (y.drop i) with
    |some ds=>m_spec_l11ReadContent_L1 y m_spec_l11ReadContent_A1 g (i:Int) z=some (true,⟨z.kind,z.level,z.value,z.data ++ ds,z.ports⟩)
    |none=>∃z',m_spec_l11ReadContent_L1 y m_spec_l11ReadContent_A1 g (i:Int) z=some (false,z'):=by
  intro d
  induction d with
  |zero=>
    intro i g z hi hg ha
    obtain ⟨g,rfl⟩ :∃g',g=g'+1:=⟨g - 1,by omega⟩
    obtain rfl:i=y.length:=by omega
    rw [m_spec_l11ReadContent_L1,m_spec_l11ReadContent_B1,dge,cond_false,m_spec_l11ReadContent_A1,List.drop_eq_nil_of_le (Nat.le_refl _)]
    simp [mapO]
  |succ d ih=>
    intro i g z hi hg ha
    obtain ⟨g,rfl⟩ :∃g',g=g'+1:=⟨g - 1,by omega⟩
    have hlt:i < y.length:=by omega
    rw [m_spec_l11ReadContent_L1,m_spec_l11ReadContent_B1,dlt hlt,cond_true,getI_lt hlt,Option.bind_some,p_sReadD,Option.bind_some,List.drop_eq_getElem_cons hlt,mapO]
    cases hr:rdD y[i] with
    |none=>exact ⟨_,rfl⟩
    |some n=>
      simp only [pack,cond_true]
      rw [mustP_ok (by simp; omega),Option.bind_some]
      have:=ih (i+1) g ⟨z.kind,z.level,z.value,z.data ++ [n],z.ports⟩ (by omega) (by omega) (by simp; omega)
      have e:((i+1:Nat):Int)=(i:Int)+1:=rfl
      rw [← e]
      cases hm:mapO rdD (y.drop (i+1)) with
      |none=>rw [hm] at this; exact this
      |some ds=>
        rw [hm] at this
        simp only [Option.map_some]
        rw [this]
        simp
theorem sCont2 (y:List ByteArray) (hy:y.length≤1048577) :∀(d i g:Nat) (z:DAgent),i+d=y.length→d < g→z.data.length≤i→
    match mapO rdD (y.drop i) with
    |some ds=>m_spec_l11ReadContent_L2 y m_spec_l11ReadContent_A2 g (i:Int) z=some (true,⟨z.kind,z.level,z.value,z.data ++ ds,z.ports⟩)
    |none=>∃z',m_spec_l11ReadContent_L2 y m_spec_l11ReadContent_A2 g (i:Int) z=some (false,z'):=by
  intro d
  induction d with
  |zero=>
    intro i g z hi hg ha
    obtain ⟨g,rfl⟩ :∃g',g=g'+1:=⟨g - 1,by omega⟩
    obtain rfl:i=y.length:=by omega
    rw [m_spec_l11ReadContent_L2,m_spec_l11ReadContent_B2,dge,cond_false,m_spec_l11ReadContent_A2,List.drop_eq_nil_of_le (Nat.le_refl _)]
    simp [mapO]
  |succ d ih=>
    intro i g z hi hg ha
    obtain ⟨g,rfl⟩ :∃g',g=g'+1:=⟨g - 1,by omega⟩
    have hlt:i < y.length:=by omega
    rw [m_spec_l11ReadContent_L2,m_spec_l11ReadContent_B2,dlt hlt,cond_true,getI_lt hlt,Option.bind_some,p_sReadD,Option.bind_some,List.drop_eq_getElem_cons hlt,mapO]
    cases hr:rdD y[i] with
    |none=>exact ⟨_,rfl⟩
    |some n=>
      simp only [pack,cond_true]
      rw [mustP_ok (by simp; omega),Option.bind_some]
      have:=ih (i+1) g ⟨z.kind,z.level,z.value,z.data ++ [n],z.ports⟩ (by omega) (by omega) (by simp; omega)
      have e:((i+1:Nat):Int)=(i:Int)+1:=rfl
      rw [← e]
      cases hm:mapO rdD (y.drop (i+1)) with
      |none=>rw [hm] at this; exact this
      |some ds=>
        rw [hm] at this
        simp only [Option.map_some]
        rw [this]
        simp
theorem sCont3 (y:List ByteArray) (hy:y.length≤1048577) :∀(d i g:Nat) (z:DAgent),i+d=y.length→d < g→z.data.length≤i→
    match mapO rdD (y.drop i) with
    |some ds=>m_spec_l11ReadContent_L3 y m_spec_l11ReadContent_A3 g (i:Int) z=some (true,⟨z.kind,z.level,z.value,z.data ++ ds,z.ports⟩)
    |none=>∃z',m_spec_l11ReadContent_L3 y m_spec_l11ReadContent_A3 g (i:Int) z=some (false,z'):=by
  intro d
  induction d with
  |zero=>
    intro i g z hi hg ha
    obtain ⟨g,rfl⟩ :∃g',g=g'+1:=⟨g - 1,by omega⟩
    obtain rfl:i=y.length:=by omega
    rw [m_spec_l11ReadContent_L3,m_spec_l11ReadContent_B3,dge,cond_false,m_spec_l11ReadContent_A3,List.drop_eq_nil_of_le (Nat.le_refl _)]
    simp [mapO]
  |succ d ih=>
    intro i g z hi hg ha
    obtain ⟨g,rfl⟩ :∃g',g=g'+1:=⟨g - 1,by omega⟩
    have hlt:i < y.length:=by omega
    rw [m_spec_l11ReadContent_L3,m_spec_l11ReadContent_B3,dlt hlt,cond_true,getI_lt hlt,Option.bind_some,p_sReadD,Option.bind_some,List.drop_eq_getElem_cons hlt,mapO]
    cases hr:rdD y[i] with
    |none=>exact ⟨_,rfl⟩
    |some n=>
      simp only [pack,cond_true]
      rw [mustP_ok (by simp; omega),Option.bind_some]
      have:=ih (i+1) g ⟨z.kind,z.level,z.value,z.data ++ [n],z.ports⟩ (by omega) (by omega) (by simp; omega)
      have e:((i+1:Nat):Int)=(i:Int)+1:=rfl
      rw [← e]
      cases hm:mapO rdD (y.drop (i+1)) with
      |none=>rw [hm] at this; exact this
      |some ds=>
        rw [hm] at this
        simp only [Option.map_some]
        rw [this]
        simp
theorem p_sCont (d:DAgent) (s:ByteArray) (hs:s.size≤1048576):AgrC (m_spec_l11ReadContent d s) d.kind d.level (rdC d.kind d.value s):=by
  have hl:=splitS_len 44 s
  have hpos:=splitS_pos 44 s
  have hsp:m_spec_l11Split s 44=some (splitS 44 s):=p_sSplit 44 s hs
  have hc:d.kind=6 ∨ d.kind=9 ∨ d.kind=12 ∨ d.kind=7 ∨ d.kind=8 ∨ (¬ d.kind=6∧¬ d.kind=9∧¬ d.kind=12∧¬ d.kind=7∧¬ d.kind=8):=by omega
  unfold m_spec_l11ReadContent
  rw [hsp,Option.bind_some]
  rcases hc with e|e|e|e|e|e
  · have c6:(d.kind==6)=true:=by rw [e]; rfl
    have c9:(d.kind==9)=false:=by rw [e]; rfl
    have c12:(d.kind==12)=false:=by rw [e]; rfl
    have c7:(d.kind==7)=false:=by rw [e]; rfl
    have c8:(d.kind==8)=false:=by rw [e]; rfl
    have hr:rdC d.kind d.value s=(rdD s).map fun n=>(n,[]):=by unfold rdC; rw [if_pos (by omega)]
    simp -implicitDefEqProofs only [m_spec_l11ReadContent_Aj1,c6,c9,c12,c7,c8,cond_true,cond_false]
    rw [p_sReadD,Option.bind_some,hr]
    cases rdD s with
    |none=>exact ⟨_,rfl⟩
    |some n=>rfl
  · have c6:(d.kind==6)=false:=by rw [e]; rfl
    have c9:(d.kind==9)=true:=by rw [e]; rfl
    have c12:(d.kind==12)=false:=by rw [e]; rfl
    have c7:(d.kind==7)=false:=by rw [e]; rfl
    have c8:(d.kind==8)=false:=by rw [e]; rfl
    have hr:rdC d.kind d.value s=(rdD s).map fun n=>(n,[]):=by unfold rdC; rw [if_pos (by omega)]
    simp -implicitDefEqProofs only [m_spec_l11ReadContent_Aj1,c6,c9,c12,c7,c8,cond_true,cond_false]
    rw [p_sReadD,Option.bind_some,hr]
    cases rdD s with
    |none=>exact ⟨_,rfl⟩
    |some n=>rfl
  · have c6:(d.kind==6)=false:=by rw [e]; rfl
    have c9:(d.kind==9)=false:=by rw [e]; rfl
    have c12:(d.kind==12)=true:=by rw [e]; rfl
    have c7:(d.kind==7)=false:=by rw [e]; rfl
    have c8:(d.kind==8)=false:=by rw [e]; rfl
    have hr:rdC d.kind d.value s=(rdD s).map fun n=>(n,[]):=by unfold rdC; rw [if_pos (by omega)]
    simp -implicitDefEqProofs only [m_spec_l11ReadContent_Aj1,c6,c9,c12,c7,c8,cond_true,cond_false]
    rw [p_sReadD,Option.bind_some,hr]
    cases rdD s with
    |none=>exact ⟨_,rfl⟩
    |some n=>rfl
  · have c6:(d.kind==6)=false:=by rw [e]; rfl
    have c9:(d.kind==9)=false:=by rw [e]; rfl
    have c12:(d.kind==12)=false:=by rw [e]; rfl
    have c7:(d.kind==7)=true:=by rw [e]; rfl
    have c8:(d.kind==8)=false:=by rw [e]; rfl
    have hr:rdC d.kind d.value s=(match splitS 44 s with|[]=>none|p :: ps=>(mapO rdD ps).map fun d=>(opOf p,d)):=by unfold rdC; rw [if_neg (by omega),if_pos (by omega)]
    simp -implicitDefEqProofs only [m_spec_l11ReadContent_Aj1,c6,c9,c12,c7,c8,cond_true,cond_false]
    rw [hr]
    cases hq:splitS 44 s with
    |nil=>rw [hq] at hpos; simp at hpos
    |cons p ps=>
      rw [hq] at hl
      rw [show getI (p :: ps) 0=some p from rfl,Option.bind_some,p_sOpOf,Option.bind_some]
      have h:=sCont3 (p :: ps) (by omega) ps.length 1 ((p :: ps).length+1) ⟨d.kind,d.level,opOf p,[],[]⟩ (by simp; omega) (by simp; omega) (by simp)
      rw [List.drop_succ_cons,List.drop_zero] at h
      simp only
      cases hm:mapO rdD ps with
      |none=>rw [hm] at h; exact h
      |some ds=>rw [hm] at h; simp only [Option.map_some]; exact h
  · have c6:(d.kind==6)=false:=by rw [e]; rfl
    have c9:(d.kind==9)=false:=by rw [e]; rfl
    have c12:(d.kind==12)=false:=by rw [e]; rfl
    have c7:(d.kind==7)=false:=by rw [e]; rfl
    have c8:(d.kind==8)=true:=by rw [e]; rfl
    have hr:rdC d.kind d.value s=(match splitS 44 s with|[]=>none|p :: ps=>(mapO rdD ps).map fun d=>(opOf p,d)):=by unfold rdC; rw [if_neg (by omega),if_pos (by omega)]
    simp -implicitDefEqProofs only [m_spec_l11ReadContent_Aj1,c6,c9,c12,c7,c8,cond_true,cond_false]
    rw [hr]
    cases hq:splitS 44 s with
    |nil=>rw [hq] at hpos; simp at hpos
    |cons p ps=>
      rw [hq] at hl
      rw [show getI (p :: ps) 0=some p from rfl,Option.bind_some,p_sOpOf,Option.bind_some]
      have h:=sCont2 (p :: ps) (by omega) ps.length 1 ((p :: ps).length+1) ⟨d.kind,d.level,opOf p,[],[]⟩ (by simp; omega) (by simp; omega) (by simp)
      rw [List.drop_succ_cons,List.drop_zero] at h
      simp only
      cases hm:mapO rdD ps with
      |none=>rw [hm] at h; exact h
      |some ds=>rw [hm] at h; simp only [Option.map_some]; exact h
  · have c6:(d.kind==6)=false:=by simpa using e.1
    have c9:(d.kind==9)=false:=by simpa using e.2.1
    have c12:(d.kind==12)=false:=by simpa using e.2.2.1
    have c7:(d.kind==7)=false:=by simpa using e.2.2.2.1
    have c8:(d.kind==8)=false:=by simpa using e.2.2.2.2
    have hr:rdC d.kind d.value s=(mapO rdD (splitS 44 s)).map fun x=>(d.value,x):=by unfold rdC; rw [if_neg (by omega),if_neg (by omega)]
    simp -implicitDefEqProofs only [m_spec_l11ReadContent_Aj1,c6,c9,c12,c7,c8,cond_true,cond_false]
    rw [hr]
    have h:=sCont1 (splitS 44 s) (by omega) (splitS 44 s).length 0 ((splitS 44 s).length+1) ⟨d.kind,d.level,d.value,[],[]⟩ (by omega) (by omega) (by simp)
    rw [List.drop_zero] at h
    cases hm:mapO rdD (splitS 44 s) with
    |none=>rw [hm] at h; exact h
    |some ds=>rw [hm] at h; simp only [Option.map_some]; exact h
theorem p_iCont (d:DAgent) (s:ByteArray) (hs:s.size≤1048576):AgrC (m_impl_readContents d s) d.kind d.level (rdC d.kind d.value s):=by
  have hc:d.kind=6 ∨ d.kind=9 ∨ d.kind=12 ∨ d.kind=7 ∨ d.kind=8 ∨ (¬ d.kind=6∧¬ d.kind=9∧¬ d.kind=12∧¬ d.kind=7∧¬ d.kind=8):=by omega
  unfold m_impl_readContents
  rcases hc with e|e|e|e|e|e
  · have c6:(d.kind==6)=true:=by rw [e]; rfl
    have c9:(d.kind==9)=false:=by rw [e]; rfl
    have c12:(d.kind==12)=false:=by rw [e]; rfl
    have c7:(d.kind==7)=false:=by rw [e]; rfl
    have c8:(d.kind==8)=false:=by rw [e]; rfl
    have hr:rdC d.kind d.value s=(rdD s).map fun n=>(n,[]):=by unfold rdC; rw [if_pos (by omega)]
    simp -implicitDefEqProofs only [m_impl_readContents_Aj1,m_impl_readContents_Aj2,c6,c9,c12,c7,c8,cond_true,cond_false]
    rw [p_iReadD s hs,Option.bind_some,hr]
    cases rdD s with
    |none=>exact ⟨_,rfl⟩
    |some n=>rfl
  · have c6:(d.kind==6)=false:=by rw [e]; rfl
    have c9:(d.kind==9)=true:=by rw [e]; rfl
    have c12:(d.kind==12)=false:=by rw [e]; rfl
    have c7:(d.kind==7)=false:=by rw [e]; rfl
    have c8:(d.kind==8)=false:=by rw [e]; rfl
    have hr:rdC d.kind d.value s=(rdD s).map fun n=>(n,[]):=by unfold rdC; rw [if_pos (by omega)]
    simp -implicitDefEqProofs only [m_impl_readContents_Aj1,m_impl_readContents_Aj2,c6,c9,c12,c7,c8,cond_true,cond_false]
    rw [p_iReadD s hs,Option.bind_some,hr]
    cases rdD s with
    |none=>exact ⟨_,rfl⟩
    |some n=>rfl
  · have c6:(d.kind==6)=false:=by rw [e]; rfl
    have c9:(d.kind==9)=false:=by rw [e]; rfl
    have c12:(d.kind==12)=true:=by rw [e]; rfl
    have c7:(d.kind==7)=false:=by rw [e]; rfl
    have c8:(d.kind==8)=false:=by rw [e]; rfl
    have hr:rdC d.kind d.value s=(rdD s).map fun n=>(n,[]):=by unfold rdC; rw [if_pos (by omega)]
    simp -implicitDefEqProofs only [m_impl_readContents_Aj1,m_impl_readContents_Aj2,c6,c9,c12,c7,c8,cond_true,cond_false]
    rw [p_iReadD s hs,Option.bind_some,hr]
    cases rdD s with
    |none=>exact ⟨_,rfl⟩
    |some n=>rfl
  · have c6:(d.kind==6)=false:=by rw [e]; rfl
    have c9:(d.kind==9)=false:=by rw [e]; rfl
    have c12:(d.kind==12)=false:=by rw [e]; rfl
    have c7:(d.kind==7)=true:=by rw [e]; rfl
    have c8:(d.kind==8)=false:=by rw [e]; rfl
    have hr:rdC d.kind d.value s=(match splitS 44 s with|[]=>none|p :: ps=>(mapO rdD ps).map fun d=>(opOf p,d)):=by unfold rdC; rw [if_neg (by omega),if_pos (by omega)]
    simp -implicitDefEqProofs only [m_impl_readContents_Aj1,m_impl_readContents_Aj2,c6,c9,c12,c7,c8,cond_true,cond_false]
    rw [hr,p_cut 44 s hs,Option.bind_some]
    rcases cut_cases 44 s with ⟨h1,h2⟩|⟨a,b,h1,h2,h3⟩
    · rw [h1,h2]
      simp only [cond_false]
      rw [p_iOpOf,Option.bind_some]
      rfl
    · rw [h1,h2]
      simp only [cond_true]
      rw [p_iOpOf,Option.bind_some,p_iNums 44 b (by omega),Option.bind_some]
      cases hm:mapO rdD (splitS 44 b) with
      |none=>exact ⟨_,rfl⟩
      |some ds=>rfl
  · have c6:(d.kind==6)=false:=by rw [e]; rfl
    have c9:(d.kind==9)=false:=by rw [e]; rfl
    have c12:(d.kind==12)=false:=by rw [e]; rfl
    have c7:(d.kind==7)=false:=by rw [e]; rfl
    have c8:(d.kind==8)=true:=by rw [e]; rfl
    have hr:rdC d.kind d.value s=(match splitS 44 s with|[]=>none|p :: ps=>(mapO rdD ps).map fun d=>(opOf p,d)):=by unfold rdC; rw [if_neg (by omega),if_pos (by omega)]
    simp -implicitDefEqProofs only [m_impl_readContents_Aj1,m_impl_readContents_Aj2,c6,c9,c12,c7,c8,cond_true,cond_false]
    rw [hr,p_cut 44 s hs,Option.bind_some]
    rcases cut_cases 44 s with ⟨h1,h2⟩|⟨a,b,h1,h2,h3⟩
    · rw [h1,h2]
      simp only [cond_false]
      rw [p_iOpOf,Option.bind_some]
      rfl
    · rw [h1,h2]
      simp only [cond_true]
      rw [p_iOpOf,Option.bind_some,p_iNums 44 b (by omega),Option.bind_some]
      cases hm:mapO rdD (splitS 44 b) with
      |none=>exact ⟨_,rfl⟩
      |some ds=>rfl
  · have c6:(d.kind==6)=false:=by simpa using e.1
    have c9:(d.kind==9)=false:=by simpa using e.2.1
    have c12:(d.kind==12)=false:=by simpa using e.2.2.1
    have c7:(d.kind==7)=false:=by simpa using e.2.2.2.1
    have c8:(d.kind==8)=false:=by simpa using e.2.2.2.2
    have hr:rdC d.kind d.value s=(mapO rdD (splitS 44 s)).map fun x=>(d.value,x):=by unfold rdC; rw [if_neg (by omega),if_neg (by omega)]
    simp -implicitDefEqProofs only [m_impl_readContents_Aj1,m_impl_readContents_Aj2,c6,c9,c12,c7,c8,cond_true,cond_false]
    rw [hr,p_iNums 44 s hs,Option.bind_some]
    cases hm:mapO rdD (splitS 44 s) with
    |none=>exact ⟨_,rfl⟩
    |some ds=>rfl
end
end Go.Proofs.YtkfmlehhbanopaaGreatDoor
