/- Texts of one proof, joined: Ord, Rg, Rh, Rl, Rm, Rn, Rq, Rr, Rp. -/
import Derived.Orders
import Derived.Tactics
import Derived.Laws.Rows
import Derived.Laws.Tables
import Derived.Deep.MidRow
import Derived.OrdersIn
import Derived.RangeFuncCalls
import Derived.OwnWalkIn
set_option linter.unusedSimpArgs false
set_option linter.unusedVariables false
namespace Go.Proofs.YtlmabbigfdbmbaaGreatDoor.Ord
section
variable{P:Program}{ops:Array Oper}{Q:Exit→Act→World→Prop}{md:Region.Mode}
theorem wpOp_value{i:Nat}{o:Oper}{v:Value}{K:Act→World→Prop}{a:Act}{w w':World}(hi:ops[i]? = some o)(hg:o.guard=none)
  (hrun:(execOp a.eval o).run P w = .ok (.value v) w') (h:K (a.put o.dst v) w'):wpOp P ops Q i K a w:=by
 unfold wpOp;rw[hi];simp only[Region.wanted,hg,if_true]
 exact .inl (by unfold Oper.wp;rw[hrun];exact h)
theorem wpOp_skip{i:Nat}{o:Oper}{K:Act→World→Prop}{a:Act}{w w':World}(hi:ops[i]? = some o)(hg:o.guard=none)
  (hrun:(execOp a.eval o).run P w = .ok .skip w') (h:K (a.put o.dst undef) w'):wpOp P ops Q i K a w:=by
 unfold wpOp;rw[hi];simp only[Region.wanted,hg,if_true]
 exact .inl (by unfold Oper.wp;rw[hrun];exact h)
theorem wpOp_call{i:Nat}{o:Oper}{K:Act→World→Prop}{a:Act}{w w':World}{f:FuncId}{args:Array Value}(hi:ops[i]? = some o)(hg:o.guard=none)
  (hrun:(execOp a.eval o).run P w = .ok (.enter f args) w') (h:Calls P f args w' fun e w''=>∃ v,e = .returned v∧K (a.put o.dst v) w''):wpOp P ops Q i K a w:=by
 unfold wpOp;rw[hi];simp only[Region.wanted,hg,if_true]
 refine .inl ?_
 unfold Oper.wp;rw[hrun]
 exact h.mono fun e w'' ⟨v,he,hk⟩=>by subst he;exact hk
theorem wpOp_at{i:Nat}{o:Oper}{K:Act→World→Prop}{a:Act}{w:World}(hi:ops[i]? = some o)(hg:o.guard=none)
  (h:∀ K':Act→World→Prop,(∀ a w,K a w→K' a w)→o.wp P a w K' Q):wpOp P ops Q i K a w:=by
 unfold wpOp;rw[hi];simp only[Region.wanted,hg,if_true]
 exact .inl (h K fun _ _ h=>h)
theorem any_one{i fuel:Nat}{listed:Array Bool}{a:Act}{w:World}(hr:Region.ready md ops listed = [i])
  (h:wpOp P ops Q i (wpAny P md ops Q fuel (listed.setIfInBounds i true)) a w):wpAny P md ops Q (fuel+1) listed a w:=
 wpAny_all hr (by simp) (by intro j hj;simp at hj;subst hj;exact h)
theorem any_two{i j fuel:Nat}{listed:Array Bool}{a:Act}{w:World}{oi oj:Oper}{v u:Value}(hij:i≠j)
  (hr:Region.ready md ops listed = [i,j]) (hr1:Region.ready md ops (listed.setIfInBounds i true) = [j]) (hr2:Region.ready md ops (listed.setIfInBounds j true) = [i])
  (hi:ops[i]? = some oi) (hj:ops[j]? = some oj) (gi:oi.guard=none) (gj:oj.guard=none) (hap:oi.apart ops oj=true)
  (hsel:Region.noSelect ops=true)
  (ri:(execOp a.eval oi).run P w = .ok (.value v) w) (rj:(execOp a.eval oj).run P w = .ok (.value u) w)
  (h:wpAny P md ops Q fuel ((listed.setIfInBounds i true).setIfInBounds j true) ((a.put oi.dst v).put oj.dst u) w):wpAny P md ops Q (fuel+1+1) listed a w:=by
 obtain⟨h1,h2,h3⟩:=Oper.apart_spec hap
 refine wpAny_all hr (by simp) ?_
 intro k hk
 simp only[List.mem_cons,List.not_mem_nil,or_false]at hk
 rcases hk with rfl | rfl
 ·refine wpOp_value hi gi ri (any_one hr1 (wpOp_value (v:=u) (w':=w) hj gj ?_ h))
  rw[execOp_put oj (fun cs b=>Region.noSelect_spec hsel _ oj cs b hj) a oi.dst v h1];exact rj
 ·refine wpOp_value hj gj rj (any_one hr2 (wpOp_value (v:=v) (w':=w) hi gi ?_ ?_))
  ·rw[execOp_put oi (fun cs b=>Region.noSelect_spec hsel _ oi cs b hi) a oj.dst u h3];exact ri
  ·rw[Array.setIfInBounds_comm _ _ (Ne.symm hij),← Act.put_comm a v u h2];exact h
theorem exec_load_row{o:Oper}{ρ:Operand→Value}{w:World}(ty:TypeId)(x:Operand)(ho:o.op = .load ty x)
  (g:Nat) (hx:ρ x = .pointer (some ⟨g,0,none⟩)) (t:TypeId) (cs:Array Value) (fr:Nat × Nat) (d:TypeDesc) (hg:w.heap[g]? = some (.cells cs t fr))
  (hu:P.underlying ty=some d) (hd:(match d with | .struct _ | .array _ _=>true | _=>false)=true) (hi:(P.info? ty).map (·.size)=some cs.size) :
  (execOp ρ o).run P w = .ok (.value (.agg cs)) w:=by
 unfold execOp
 simp only[ho,hx,Instr.loadAt,Instr.sureAddr,Sem.run_bind,Sem.run_pure,Result.andThen_ok,run_loadVar_row w g t ty cs fr d hg hu hd hi]
theorem exec_store_row{o:Oper}{ρ:Operand→Value}{w:World}(ty:TypeId)(x y:Operand)(ho:o.op = .store ty x y)
  (g:Nat) (cells:Array Value) (hx:ρ x = .pointer (some ⟨g,0,none⟩)) (hy:ρ y = .agg cells)
  (t:TypeId) (old:Array Value) (hg:w.heap[g]? = some (.cells old t (0,0))) (hi:(P.info? ty).map (·.size)=some cells.size)
  (hold:old.size=cells.size) (h1:cells.all (·.oneCell')=true) :
  (execOp ρ o).run P w = .ok .skip (w.setRow g cells):=by
 unfold execOp
 simp only[ho,hx,hy,Instr.storeAt,Instr.sureAddr,Sem.run_bind,Sem.run_pure,Result.andThen_ok,run_storeVar_row w g t ty old cells hg hi hold h1]
end
end Go.Proofs.YtlmabbigfdbmbaaGreatDoor.Ord
namespace Go.Proofs.YtlmabbigfdbmbaaGreatDoor.Ord
def dstAt(ops:Array Oper)(i:Nat):Option Tmp:=(ops[i]?).bind (·.dst)
def frL(ops:Array Oper)(a0:Act)(g:Nat→Value)(L:Nat→Bool):Nat→Act
 | 0=>a0
 | n+1=>if L n then (frL ops a0 g L n).put (dstAt ops n) (g n)else frL ops a0 g L n
def pre(ops:Array Oper)(a0:Act)(g:Nat→Value):Nat→Act
 | 0=>a0
 | i+1=>(pre ops a0 g i).put (dstAt ops i) (g i)
section
variable{P:Program}{ops:Array Oper}{Q:Exit→Act→World→Prop}{md:Region.Mode}{a0:Act}
theorem put_size(a:Act)(d:Option Tmp)(v:Value):(a.put d v).tmps.size=a.tmps.size:=by
 cases d<;>simp[Act.put]
theorem frL_size(g:Nat→Value)(L:Nat→Bool):∀ n,(frL ops a0 g L n).tmps.size=a0.tmps.size
 | 0=>rfl
 | n+1=>by
  unfold frL;split
  ·rw[put_size,frL_size g L n]
  ·exact frL_size g L n
theorem eval_put_same(a:Act)(t:Tmp)(v:Value):(a.put (some t) v).eval (.tmp t)=if t < a.tmps.size then v else undef:=by
 simp only[Act.put,Act.eval]
 by_cases h:t < a.tmps.size
 ·simp[h]
 ·simp[h]
theorem frL_agree(g:Nat→Value)(L1 L2:Nat→Bool)(t:Tmp):∀ n,(∀ j,j < n→dstAt ops j=some t→L1 j=L2 j)→
  (frL ops a0 g L1 n).eval (.tmp t)=(frL ops a0 g L2 n).eval (.tmp t)
 | 0,_=>rfl
 | n+1,h=>by
  have ih:=frL_agree g L1 L2 t n (fun j hj=>h j (by omega))
  by_cases e:dstAt ops n=some t
  ·have hl:=h n (by omega) e
   unfold frL
   rw[hl,e]
   cases L2 n with
   | true=>simp only[if_true];rw[eval_put_same,eval_put_same,frL_size,frL_size]
   | false=>simpa using ih
  ·have keep:∀ (a:Act) (v:Value),(a.put (dstAt ops n) v).eval (.tmp t)=a.eval (.tmp t):=fun a v=>
    Act.eval_put (fun d hd heq=>e (by rw[hd];injection heq with heq;rw[heq]))
   unfold frL
   cases L1 n<;>cases L2 n<;>simp[keep,ih]
theorem frL_pre (g : Nat → Value) (i : Nat) : ∀ n, i ≤ n → frL ops a0 g (fun j => decide (j < i)) n = pre ops a0 g i
  | 0, h => by obtain rfl : i = 0 := by omega
               rfl
  | n + 1, h => by
    unfold frL
    by_cases e : i = n + 1
    · subst e
      rw [if_pos (by simp)]
      have : ∀ m, m ≤ n → frL ops a0 g (fun j => decide (j < n + 1)) m = pre ops a0 g m := by
        intro m
        induction m with
        | zero => intro _; rfl
        | succ m ih => intro hm; unfold frL pre; rw [if_pos (by simp; omega), ih (by omega)]
      rw [this n (Nat.le_refl _)]; rfl
    · rw [if_neg (by simp; omega)]
      exact frL_pre g i n (by omega)
theorem frL_all(g:Nat→Value)(L:Nat→Bool):∀ n,(∀ j,j < n→L j=true)→frL ops a0 g L n=pre ops a0 g n
 | 0,_=>rfl
 | n+1,h=>by unfold frL pre;rw[if_pos (h n (by omega)),frL_all g L n (fun j hj=>h j (by omega))]
def upd(g:Nat→Value)(i:Nat)(v:Value):Nat→Value:=fun j=>if j=i then v else g j
theorem upd_same(g:Nat→Value)(i:Nat)(v:Value):upd g i v i=v:=by simp[upd]
theorem upd_other(g:Nat→Value){i j:Nat}(v:Value)(h:j≠i):upd g i v j=g j:=by simp[upd,h]
theorem frL_upd_ge(g:Nat→Value)(L L':Nat→Bool)(i:Nat)(v:Value):∀ n,n≤i→(∀ j,j < n→L' j=L j)→
  frL ops a0 (upd g i v) L' n=frL ops a0 g L n
 | 0,_,_=>rfl
 | n+1,h,hl=>by
  unfold frL
  rw[hl n (by omega),frL_upd_ge g L L' i v n (by omega) (fun j hj=>hl j (by omega)),upd_other g v (by omega)]
theorem frL_upd(N:Nat)(g:Nat→Value)(L L':Nat→Bool)(i:Nat)(v:Value)(hi:L i=false)(hi':L' i=true)(ho:∀ j,j≠i→L' j=L j)
  (hd:∀ j,j < N→j≠i→∀ d,dstAt ops i=some d→dstAt ops j≠some d):∀ n,n≤N→i < n→
  frL ops a0 (upd g i v) L' n=(frL ops a0 g L n).put (dstAt ops i) v
 | 0,_,h=>by omega
 | n+1,hN,h=>by
  unfold frL
  by_cases e:n=i
  ·subst e
   rw[hi,hi',if_pos rfl,frL_upd_ge g L L' n v n (Nat.le_refl _) (fun j hj=>ho j (by omega)),upd_same]
   simp
  ·rw[ho n e,frL_upd N g L L' i v hi hi' ho hd n (by omega) (by omega),upd_other g v e]
   cases L n with
   | true=>simp only[if_true];exact Act.put_comm _ _ _ (fun d hx=>hd n (by omega) e d hx)
   | false=>simp
def OpGives(P:Program)(o:Oper)(ρ:Operand→Value)(w:World)(K:Value→World→Prop):Prop:=
 match (execOp ρ o).run P w with
 | .ok (.value v) w'=>K v w'
 | .ok .skip w'=>K undef w'
 | .ok (.enter f args) w'=>Calls P f args w' fun e w''=>∃ v,e = .returned v∧K v w''
 | _=>False
theorem OpGives.mono{o:Oper}{ρ:Operand→Value}{w:World}{K K':Value→World→Prop}(h:OpGives P o ρ w K)(hk:∀ v w,K v w→K' v w):OpGives P o ρ w K':=by
 unfold OpGives at *
 split at h
 ·exact hk _ _ h
 ·exact hk _ _ h
 ·exact h.mono fun e w'' ⟨v,he,hv⟩=>⟨v,he,hk _ _ hv⟩
 ·exact h.elim
theorem OpGives.wpOp{i:Nat}{o:Oper}{K:Act→World→Prop}{a:Act}{w:World}(hi:ops[i]? = some o)(hg:o.guard=none)
  (h:OpGives P o a.eval w fun v w'=>K (a.put o.dst v) w'):Go.wpOp P ops Q i K a w:=by
 unfold Go.wpOp;rw[hi];simp only[Region.wanted,hg,if_true]
 refine .inl ?_
 unfold Oper.wp
 unfold OpGives at h
 generalize (execOp a.eval o).run P w=r at *
 cases r with
 | halt x w'=>exact h.elim
 | ok n w'=>
  cases n with
  | value v=>exact h
  | skip=>exact h
  | enter f args=>exact h.mono fun e w'' ⟨v,he,hk⟩=>by subst he;exact hk
  | _=>exact h.elim
def waits(md:Region.Mode)(ops:Array Oper)(j i:Nat):Bool:=
 match ops[j]? with
 | some oj=>oj.after.any fun e=>Region.binds md e && e.on == i
 | none=>false
def oneDst(x y:Option Tmp):Bool:=match x,y with
 | some a,some b=>a == b
 | _,_=>false
def wired(md:Region.Mode)(ops:Array Oper)(n:Nat):Bool:=
 decide (n≤ops.size) && Region.noSelect ops &&
 ((List.range n).all fun i=>match ops[i]? with
  | some oi=>oi.guard.isNone && (oi.after.all fun e=>!Region.binds md e || decide (e.on < i)) &&
   ((List.range n).all fun j=>j == i || (!oneDst (dstAt ops i) (dstAt ops j) &&
    (match dstAt ops j with
     | some d=>!((oi.op.operands.toList.any fun x=>match x with | .tmp t=>t == d | _=>false)) || (if j < i then waits md ops i j else waits md ops j i)
     | none=>true)))
  | none=>false) &&
 ((List.range ops.size).all fun j=>decide (j < n) || (List.range n).all fun i=>waits md ops j i)
structure Wired(md:Region.Mode)(ops:Array Oper)(n:Nat):Prop where
 le:n≤ops.size
 sel:Region.noSelect ops=true
 op:∀ i,i < n→∃ oi,ops[i]? = some oi∧oi.guard=none∧∀ e∈oi.after,Region.binds md e=true→e.on < i
 dst:∀ i j,i < n→j < n→j≠i→∀ d,dstAt ops i=some d→dstAt ops j≠some d
 read:∀ i j oi,i < n→j < n→j≠i→ops[i]? = some oi→∀ d,dstAt ops j=some d→Operand.tmp d∈oi.op.operands→(if j < i then waits md ops i j else waits md ops j i)=true
 tail:∀ j,n≤j→j < ops.size→∀ i,i < n→waits md ops j i=true
theorem wired_spec{n:Nat}(h:wired md ops n=true):Wired md ops n:=by
 unfold wired at h
 simp only[Bool.and_eq_true,decide_eq_true_eq,List.all_eq_true,List.mem_range,Bool.or_eq_true]at h
 obtain⟨⟨⟨h1,h2⟩,h3⟩,h4⟩:=h
 have h3':∀ i,i < n→∃ oi,ops[i]? = some oi∧oi.guard=none∧(∀ e∈oi.after,Region.binds md e=true→e.on < i)∧
   ∀ j,j < n→j≠i→(oneDst (dstAt ops i) (dstAt ops j)=false∧∀ d,dstAt ops j=some d→Operand.tmp d∈oi.op.operands→(if j < i then waits md ops i j else waits md ops j i)=true):=by
  intro i hi
  have:=h3 i hi
  cases ho:ops[i]? with
  | none=>rw[ho]at this;cases this
  | some oi=>
   rw[ho]at this
   simp only[Bool.and_eq_true,Option.isNone_iff_eq_none,Array.all_eq_true_iff_forall_mem,Bool.or_eq_true,Bool.not_eq_true',decide_eq_true_eq,List.all_eq_true,List.mem_range,beq_iff_eq]at this
   obtain⟨⟨g1,g2⟩,g3⟩:=this
   refine⟨oi,rfl,g1,fun e he hb=>?_,fun j hj hji=>?_⟩
   ·rcases g2 e he with x | x
    ·rw[x]at hb;cases hb
    ·exact x
   ·rcases g3 j hj with x | ⟨x1,x2⟩
    ·exact absurd x hji
    ·refine⟨x1,fun d hd hmem=>?_⟩
     rw[hd]at x2
     simp only[Bool.or_eq_true,Bool.not_eq_true']at x2
     rcases x2 with y | y
     ·have:(oi.op.operands.toList.any fun x=>match x with | .tmp t=>t == d | _=>false)=true:=
       List.any_eq_true.2 ⟨.tmp d,by simpa using hmem,by simp⟩
      rw[this]at y;cases y
     ·exact y
 refine⟨h1,h2,fun i hi=>?_,fun i j hi hj hji d hd hd'=>?_,fun i j oi hi hj hji ho d hd hm=>?_,fun j hj hjs i hi=>?_⟩
 ·obtain⟨oi,a,b,c,_⟩:=h3' i hi;exact⟨oi,a,b,c⟩
 ·obtain⟨oi,_,_,_,f⟩:=h3' i hi
  have:=(f j hj hji).1
  rw[hd,hd']at this
  simp[oneDst]at this
 ·obtain⟨oi',a,_,_,f⟩:=h3' i hi
  rw[ho]at a;injection a with a;subst a
  exact(f j hj hji).2 d hd hm
 ·rcases h4 j hjs with x | x
  ·omega
  ·exact x i hi
theorem waits_spec{j i:Nat}(h:waits md ops j i=true):∃ oj,ops[j]? = some oj∧∃ e∈oj.after,Region.binds md e=true∧e.on=i:=by
 unfold waits at h
 split at h
 ·rename_i oj hj
  obtain⟨e,he,hb⟩:=Array.any_eq_true'.1 h
  simp only[Bool.and_eq_true,beq_iff_eq]at hb
  exact⟨oj,hj,e,he,hb.1,hb.2⟩
 ·cases h
theorem count_step(p p':Nat→Bool)(i:Nat)(hp:p i=true)(hp':p' i=false)(ho:∀ j,j≠i→p' j=p j):∀ n,i < n→(List.range n).countP p'+1=(List.range n).countP p
 | 0,h=>by omega
 | n+1,h=>by
  rw[List.range_succ,List.countP_append,List.countP_append]
  by_cases e:i=n
  ·subst e
   have:(List.range i).countP p'=(List.range i).countP p:=by
    rw[List.countP_congr];intro x hx;rw[ho x (by have:=List.mem_range.1 hx;omega)]
   rw[this];simp[hp,hp']
  ·have ih:=count_step p p' i hp hp' ho n (by omega)
   have e2:p' n=p n:=ho n (fun x=>e x.symm)
   simp only[List.countP_singleton,e2]
   omega
theorem count_zero(p:Nat→Bool)(n:Nat)(h:(List.range n).countP p=0)(j:Nat)(hj:j < n):p j=false:=by
 rw[List.countP_eq_zero]at h
 simpa using h j (List.mem_range.2 hj)
def doneN(ops:Array Oper)(n:Nat):Array Bool:=((List.range ops.size).map fun j=>decide (j < n)).toArray
section
variable{n:Nat}(S:World→Prop)(R:World→World→Prop)(φ:Nat→Value→World→Prop)
theorem region_core(hw:Wired md ops n)(hS:∀ w w',S w→R w w'→S w')(hφ:∀ i v w w',φ i v w→R w w'→φ i v w')
  (step:∀ i oi,i < n→ops[i]? = some oi→∀ g w,S w→(∀ j,j < i→waits md ops i j=true→φ j (g j) w)→
   OpGives P oi (pre ops a0 g i).eval w (fun v w'=>R w w'∧φ i v w'))
  (fin:∀ g w,S w→(∀ i,i < n→φ i (g i) w)→wpAny P md ops Q (ops.size - n) (doneN ops n) (pre ops a0 g n) w) :
  ∀ (m:Nat) (listed:Array Bool) (g:Nat→Value) (w:World),(List.range n).countP (fun j=>!listed.getD j false)=m→listed.size=ops.size→
   (∀ j oj,listed.getD j false=true→ops[j]? = some oj→∀ e∈oj.after,Region.binds md e=true→listed.getD e.on false=true)→
   (∀ j,n≤j→listed.getD j false=false)→S w→(∀ j,j < n→listed.getD j false=true→φ j (g j) w)→
   wpAny P md ops Q (m+(ops.size - n)) listed (frL ops a0 g (fun j=>listed.getD j false) n) w:=by
 intro m
 induction m with
 | zero=>
  intro listed g w hc hsz hcl htl hSw hph
  have hall:∀ j,j < n→listed.getD j false=true:=fun j hj=>by
   have:=count_zero _ n hc j hj;simpa using this
  have hl:listed=doneN ops n:=by
   apply Array.ext
   ·simp[doneN,hsz]
   ·intro j h1 h2
    have e:listed[j]=listed.getD j false:=by simp[h1]
    rw[e]
    simp only[doneN,List.getElem_toArray,List.getElem_map,List.getElem_range]
    by_cases hj:j < n
    ·simp[hall j hj,hj]
    ·rw[htl j (by omega)];simp[hj]
  rw[frL_all g _ n hall,Nat.zero_add]
  subst hl
  exact fin g w hSw (fun i hi=>hph i hi (hall i hi))
 | succ m ih=>
  intro listed g w hc hsz hcl htl hSw hph
  rw[show m+1+(ops.size - n)=(m+(ops.size - n))+1 by omega]
  have hex:∃ i,i < n∧listed.getD i false=false:=by
   apply Classical.byContradiction
   intro hno
   have:(List.range n).countP (fun j=>!listed.getD j false)=0:=by
    rw[List.countP_eq_zero]
    intro j hj
    have hj':=List.mem_range.1 hj
    cases hl:listed.getD j false with
    | true=>simp
    | false=>exact absurd ⟨j,hj',hl⟩ hno
   omega
  have hunl:∀ j,j < ops.size→(listed.getD j true=false↔listed.getD j false=false):=fun j hj=>by simp[hsz,hj]
  have hne:Region.ready md ops listed≠[]:=by
   intro h0
   obtain⟨i,hi,hl⟩:=hex
   have key:∀ d i,i=d→i < n→listed.getD i false=false→False:=by
    intro d
    induction d using Nat.strongRecOn with
    | _ d ihd=>
     intro i hid hi hl
     obtain⟨oi,ho,_,hdep⟩:=hw.op i hi
     have:i∈Region.ready md ops listed:=mem_ready.2 ⟨(hunl i (by have:=hw.le;omega)).2 hl,oi,ho,fun e he hb=>by
      have hlt:=hdep e he hb
      cases hx:listed.getD e.on false with
      | true=>rfl
      | false=>exact(ihd e.on (by omega) e.on rfl (by omega) hx).elim⟩
     rw[h0]at this;cases this
   exact key i i rfl hi hl
  refine⟨fun h0=>absurd h0 hne,fun j hj=>?_⟩
  obtain⟨hjun,oj,hoj,hdeps⟩:=mem_ready.1 hj
  have hjs:j < ops.size:=(Array.getElem?_eq_some_iff.1 hoj).1
  have hjl:=(hunl j hjs).1 hjun
  have hjn:j < n:=by
   rcases Nat.lt_or_ge j n with h | h
   ·exact h
   ·obtain⟨i,hi,hl⟩:=hex
    obtain⟨oj',ho',e,he,hb,hon⟩:=waits_spec (hw.tail j h hjs i hi)
    rw[hoj]at ho';injection ho' with ho';subst ho'
    have:=hdeps e he hb
    rw[hon,hl]at this;cases this
  obtain⟨oj2,ho2,hguard,_⟩:=hw.op j hjn
  rw[hoj]at ho2;injection ho2 with ho2;subst ho2
  have hread:execOp (frL ops a0 g (fun j=>listed.getD j false) n).eval oj=execOp (pre ops a0 g j).eval oj:=by
   rw[← frL_pre (ops:=ops) (a0:=a0) g j n (by omega)]
   refine execOp_congr oj (fun cs b=>Region.noSelect_spec hw.sel j oj cs b hoj) (fun x hx=>?_)
   cases x with
   | tmp t=>
    refine frL_agree g _ _ t n (fun k hk hdk=>?_)
    by_cases hkj:k=j
    ·subst hkj;simp[hjl]
    ·have:=hw.read j k oj hjn hk hkj hoj t hdk hx
     by_cases hlt:k < j
     ·rw[if_pos hlt]at this
      obtain⟨o',ho',e,he,hb,hon⟩:=waits_spec this
      rw[hoj]at ho';injection ho' with ho';subst ho'
      have h2:=hdeps e he hb
      rw[hon]at h2
      simp only[h2,decide_eq_true hlt]
     ·rw[if_neg hlt]at this
      obtain⟨o',ho',e,he,hb,hon⟩:=waits_spec this
      have hnl:listed.getD k false=false:=by
       cases hx:listed.getD k false with
       | false=>rfl
       | true=>
        have:=hcl k o' hx ho' e he hb
        rw[hon,hjl]at this;cases this
      simp only[hnl,decide_eq_false hlt]
   | _=>rfl
  have hdst:oj.dst=dstAt ops j:=by simp[dstAt,hoj]
  have hst:=step j oj hjn hoj g w hSw (fun k hk hwk=>by
   obtain⟨o',ho',e,he,hb,hon⟩:=waits_spec hwk
   rw[hoj]at ho';injection ho' with ho';subst ho'
   have h2:=hdeps e he hb
   rw[hon]at h2
   exact hph k (by omega) h2)
  refine OpGives.wpOp hoj hguard ?_
  unfold OpGives at hst ⊢
  rw[hread]
  refine OpGives.mono (o:=oj) (ρ:=(pre ops a0 g j).eval) hst (fun v w' ⟨hR,hphv⟩=>?_)
  have hL:∀ k,(listed.setIfInBounds j true).getD k false=if k=j then true else listed.getD k false:=fun k=>by
   by_cases hk:k=j
   ·subst hk;simp[hsz,hjs]
   ·simp only[hk,if_false];exact getD_set_ne false (fun x=>hk x.symm)
  have hfr:(frL ops a0 g (fun j=>listed.getD j false) n).put oj.dst v=frL ops a0 (upd g j v) (fun k=>(listed.setIfInBounds j true).getD k false) n:=by
   rw[hdst]
   refine(frL_upd n g _ _ j v hjl (by simp[hL]) (fun k hk=>by simp[hL,hk]) (fun k hk hkj d hd=>hw.dst j k hjn hk hkj d hd) n (Nat.le_refl _) hjn).symm
  rw[hfr]
  refine ih (listed.setIfInBounds j true) (upd g j v) w' ?_ (by simp[hsz]) ?_ ?_ (hS _ _ hSw hR) ?_
  ·have:=count_step (fun k=>!listed.getD k false) (fun k=>!(listed.setIfInBounds j true).getD k false) j (by simp[hjl]) (by simp[hL]) (fun k hk=>by simp[hL,hk]) n hjn
   omega
  ·intro k ok hk hok e he hb
   rw[hL]at hk ⊢
   by_cases hkj:k=j
   ·subst hkj
    rw[hoj]at hok;injection hok with hok;subst hok
    split
    ·rfl
    ·exact hdeps e he hb
   ·rw[if_neg hkj]at hk
    split
    ·rfl
    ·exact hcl k ok hk hok e he hb
  ·intro k hk
   rw[hL,if_neg (by omega)];exact htl k hk
  ·intro k hk hl
   by_cases hkj:k=j
   ·subst hkj;rw[upd_same];exact hphv
   ·rw[upd_other g v hkj]
    rw[hL,if_neg hkj]at hl
    exact hφ _ _ _ _ (hph k hk hl) hR
theorem wp_region_rg {id : Nat} {w : World} (n : Nat) (hm : P.follows .mixedOrders = true) (hw : wired .any ops n = true)
    (hS : ∀ w w', S w → R w w' → S w') (hφ : ∀ i v w w', φ i v w → R w w' → φ i v w') (h0 : S w.drew)
    (step : ∀ i oi, i < n → ops[i]? = some oi → ∀ g w, S w → (∀ j, j < i → waits .any ops i j = true → φ j (g j) w) →
      OpGives P oi (pre ops a0 g i).eval w (fun v w' => R w w' ∧ φ i v w'))
    (fin : ∀ g w, S w → (∀ i, i < n → φ i (g i) w) → wpAny P .any ops Q (ops.size - n) (doneN ops n) (pre ops a0 g n) w) :
    (Code.region id ops true).wp P Q a0 w := by
  refine wp_region_any hm ?_
  have hW := wired_spec hw
  have hf : ∀ j, (Array.replicate ops.size false).getD j false = false := fun j => by
    rcases Nat.lt_or_ge j ops.size with h | h <;> simp [h]
  have h := region_core (Q := Q) (a0 := a0) S R φ hW hS hφ step fin n (Array.replicate ops.size false) (fun _ => undef) w.drew
    (by rw [List.countP_eq_length.2]; · simp
        · intro j _; simp only [hf]; rfl) (by simp) (fun j oj hj => by rw [hf] at hj; cases hj) (fun j _ => hf j) h0 (fun j _ hj => by rw [hf] at hj; cases hj)
  have e1 : n + (ops.size - n) = ops.size := by have := hW.le; omega
  rw [e1] at h
  have e2 : ∀ m, frL ops a0 (fun _ => undef) (fun j => (Array.replicate ops.size false).getD j false) m = a0 := by
    intro m
    induction m with
    | zero => rfl
    | succ m ihm => unfold frL; rw [hf, ihm]; simp
  rw [e2] at h
  exact h
structure Fact(R:World→World→Prop) where
 p:Value→World→Prop
 st:∀ v w w',p v w→R w w'→p v w'
def eqF(R:World→World→Prop)(V:Value):Fact R:=⟨fun v _=>v=V,fun _ _ _ h _=>h⟩
def factP{R:World→World→Prop}(fs:List (Fact R))(i:Nat)(v:Value)(w:World):Prop:=
 match fs[i]? with
 | some f=>f.p v w
 | none=>True
def Steps(P:Program)(ops:Array Oper)(a0:Act)(S:World→Prop)(R:World→World→Prop)(all:List (Fact R)):Nat→List Oper→List (Fact R)→Prop
 | _,[],[]=>True
 | i,o :: os,f :: fs=>(∀ (g:Nat→Value) (w:World),S w→(∀ j,j < i→waits .any ops i j=true→factP all j (g j) w)→
   OpGives P o (pre ops a0 g i).eval w (fun v w'=>R w w'∧f.p v w'))∧Steps P ops a0 S R all (i+1) os fs
 | _,_,_=>False
theorem steps_nil{S:World→Prop}{R:World→World→Prop}{all:List (Fact R)}{i:Nat} : Steps P ops a0 S R all i [] []:=trivial
theorem steps_cons{S:World→Prop}{R:World→World→Prop}{all:List (Fact R)}{i:Nat}{o:Oper}{os:List Oper}{f:Fact R}{fs:List (Fact R)}
  (h:∀ (g:Nat→Value) (w:World),S w→(∀ j,j < i→waits .any ops i j=true→factP all j (g j) w)→OpGives P o (pre ops a0 g i).eval w (fun v w'=>R w w'∧f.p v w'))
  (rest:Steps P ops a0 S R all (i+1) os fs):Steps P ops a0 S R all i (o :: os) (f :: fs):=⟨h,rest⟩
theorem steps_get{S:World→Prop}{R:World→World→Prop}{all:List (Fact R)} : ∀ (os:List Oper) (fs:List (Fact R)) (k:Nat),Steps P ops a0 S R all k os fs→
  ∀ i o,os[i]? = some o→∃ f,fs[i]? = some f∧(∀ (g:Nat→Value) (w:World),S w→(∀ j,j < k+i→waits .any ops (k+i) j=true→factP all j (g j) w)→
   OpGives P o (pre ops a0 g (k+i)).eval w (fun v w'=>R w w'∧f.p v w'))
 | [],_,_,_,i,o,h=>by simp at h
 | o :: os,[],_,hs,_,_,_=>by simp[Steps]at hs
 | o :: os,f :: fs,k,hs,i,o',h=>by
  cases i with
  | zero=>
   simp at h;subst h
   exact⟨f,rfl,hs.1⟩
  | succ i=>
   obtain⟨f',hf,hx⟩:=steps_get os fs (k+1) hs.2 i o' (by simpa using h)
   refine⟨f',by simpa using hf,?_⟩
   have e:k+1+i=k+(i+1):=by omega
   rw[e]at hx
   exact hx
theorem wp_region_facts{id:Nat}{w:World}{S:World→Prop}{R:World→World→Prop}(fs:List (Fact R))(hm:P.follows .mixedOrders=true)(hw:wired .any ops fs.length=true)
  (hS:∀ w w',S w→R w w'→S w') (h0:S w.drew) (steps:Steps P ops a0 S R fs 0 (ops.toList.take fs.length) fs)
  (fin:∀ g w,S w→(∀ i,i < fs.length→factP fs i (g i) w)→wpAny P .any ops Q (ops.size - fs.length) (doneN ops fs.length) (pre ops a0 g fs.length) w) :
  (Code.region id ops true).wp P Q a0 w:=by
 refine wp_region_rg S R (factP fs) fs.length hm hw hS (fun i v w w' h hR=>?_) h0 (fun i oi hi ho g w hSw hd=>?_) fin
 ·unfold factP at *
  split
  ·rename_i f hf;rw[hf]at h;exact f.st _ _ _ h hR
  ·trivial
 ·obtain⟨f,hf,hx⟩:=steps_get _ _ 0 steps i oi (by rw[List.getElem?_take,if_pos hi];simpa using ho)
  have:=hx g w hSw (fun j hj hw=>hd j (by omega) (by simpa using hw))
  rw[Nat.zero_add]at this
  refine this.mono fun v w' ⟨hR,hp⟩=>⟨hR,?_⟩
  unfold factP;rw[hf];exact hp
def puts(a:Act)(g:Nat→Value):Nat→List (Option Tmp)→Act
 | _,[]=>a
 | i,d :: ds=>puts (a.put d (g i)) g (i+1) ds
theorem puts_snoc(g:Nat→Value)(d:Option Tmp):∀ (ds:List (Option Tmp)) (a:Act) (i:Nat),puts a g i (ds ++ [d])=(puts a g i ds).put d (g (i+ds.length))
 | [],a,i=>rfl
 | e :: ds,a,i=>by
  show puts (a.put e (g i)) g (i+1) (ds ++ [d])=_
  rw[puts_snoc g d ds]
  show(puts (a.put e (g i)) g (i+1) ds).put d (g (i+1+ds.length))=(puts (a.put e (g i)) g (i+1) ds).put d (g (i+(ds.length+1)))
  rw[show i+1+ds.length=i+(ds.length+1)by omega]
theorem pre_puts(g:Nat→Value):∀ n,pre ops a0 g n=puts a0 g 0 ((List.range n).map (dstAt ops))
 | 0=>rfl
 | n+1=>by
  rw[List.range_succ,List.map_append,List.map_singleton,puts_snoc,← pre_puts g n,List.length_map,List.length_range,Nat.zero_add];rfl
theorem pre_lit{g:Nat→Value}{n:Nat}(l:List (Option Tmp))(h:(List.range n).map (dstAt ops)=l):pre ops a0 g n=puts a0 g 0 l:=by rw[← h];exact pre_puts g n
def rdl(a0:Act)(l:List (Tmp × Value)):Operand→Value
 | .tmp t=>match l.lookup t with | some v=>v | none=>a0.eval (.tmp t)
 | x=>a0.eval x
theorem rdl_const(a0:Act)(l:List (Tmp × Value))(v:Value):rdl a0 l (.const v)=v:=rfl
theorem rdl_func(a0:Act)(l:List (Tmp × Value))(f:FuncId):rdl a0 l (.func f)=a0.eval (.func f):=rfl
theorem rdl_global(a0:Act)(l:List (Tmp × Value))(g:Nat):rdl a0 l (.global g)=a0.eval (.global g):=rfl
theorem rdl_nil(a0:Act)(t:Tmp):rdl a0 [] (.tmp t)=a0.eval (.tmp t):=rfl
theorem rdl_cons(a0:Act)(t s:Tmp)(v:Value)(l:List (Tmp × Value)):rdl a0 ((s,v) :: l) (.tmp t)=if t=s then v else rdl a0 l (.tmp t):=by
 simp only[rdl,List.lookup_cons]
 by_cases h:t=s
 ·subst h;simp
 ·have:(t == s)=false:=by simp[h]
  rw[this,if_neg h]
theorem OpGives.reads{o:Oper}{ρ:Operand→Value}{w:World}{K:Value→World→Prop}(a0:Act)(l:List (Tmp × Value))(hs:∀ cs b,o.op≠.select cs b)
  (h:o.op.operands.toList.map ρ=o.op.operands.toList.map (rdl a0 l)) (hg:OpGives P o (rdl a0 l) w K):OpGives P o ρ w K:=by
 unfold OpGives at *
 rw[execOp_congr o hs (ρ:=ρ) (ρ':=rdl a0 l) (fun x hx=>List.map_inj_left.1 h x (by simpa using hx))]
 exact hg
def lastW(ops:Array Oper)(t:Tmp):Nat→Option Nat
 | 0=>none
 | i+1=>if oneDst (dstAt ops i) (some t)then some i else lastW ops t i
theorem pre_size(g:Nat→Value):∀ i,(pre ops a0 g i).tmps.size=a0.tmps.size
 | 0=>rfl
 | i+1=>by unfold pre;rw[put_size,pre_size g i]
theorem pre_eval(g:Nat→Value)(t:Tmp)(ht:t < a0.tmps.size):∀ i,(pre ops a0 g i).eval (.tmp t)=match lastW ops t i with | some j=>g j | none=>a0.eval (.tmp t)
 | 0=>rfl
 | i+1=>by
  have ih:=pre_eval g t ht i
  unfold pre lastW
  cases h:dstAt ops i with
  | none=>simpa [Act.put,oneDst] using ih
  | some d=>
   by_cases e:d=t
   ·subst e
    rw[eval_put_same,pre_size,if_pos ht];simp[oneDst]
   ·rw[Act.eval_put (fun d' hd heq=>by injection hd with hd;injection heq with heq;exact e (by rw[hd,← heq]))]
    simpa [oneDst,e] using ih
def okReads(ops:Array Oper)(i:Nat)(o:Oper)(l:List (Tmp × Nat))(sz:Nat):Bool:=
 (match o.op with | .select .. =>false | _=>true) && o.op.operands.toList.all fun x=>match x with
  | .tmp t=>decide (t < sz) && (match lastW ops t i with | some j=>l.lookup t == some j | none=>(l.lookup t).isNone)
  | _=>true
theorem lookup_map(g:Nat→Value)(t:Tmp):∀ l:List (Tmp × Nat),(l.map fun x=>(x.1,g x.2)).lookup t=(l.lookup t).map g
 | []=>rfl
 | (s,j) :: l=>by
  simp only[List.map_cons,List.lookup_cons,lookup_map g t l]
  cases t == s<;>rfl
theorem OpGives.pre_reads{o:Oper}{g:Nat→Value}{i:Nat}{w:World}{K:Value→World→Prop}(l:List (Tmp × Nat))(sz:Nat)(hsz:a0.tmps.size=sz)(hok:okReads ops i o l sz=true)
  (hg:OpGives P o (rdl a0 (l.map fun x=>(x.1,g x.2))) w K):OpGives P o (pre ops a0 g i).eval w K:=by
 unfold okReads at hok
 rw[Bool.and_eq_true]at hok
 obtain⟨h1,h2⟩:=hok
 have hs:∀ cs b,o.op≠.select cs b:=fun cs b h=>by rw[h]at h1;cases h1
 refine OpGives.reads a0 _ hs ?_ hg
 refine List.map_congr_left (fun x hx=>?_)
 have h3:=List.all_eq_true.1 h2 x hx
 cases x with
 | tmp t=>
  simp only[Bool.and_eq_true,decide_eq_true_eq]at h3
  rw[pre_eval g t (by rw[hsz];exact h3.1)]
  simp only[rdl,lookup_map]
  cases hl:lastW ops t i with
  | none=>rw[hl]at h3;simp only[Option.isNone_iff_eq_none]at h3;rw[h3.2];rfl
  | some j=>rw[hl]at h3;simp only[beq_iff_eq]at h3;rw[h3.2];rfl
 | const v=>induction i with | zero=>rfl | succ i ih=>rfl
 | global v=>induction i with | zero=>rfl | succ i ih=>rfl
 | func v=>induction i with | zero=>rfl | succ i ih=>rfl
theorem OpGives.val{o:Oper}{ρ:Operand→Value}{w w':World}{v:Value}{K:Value→World→Prop}(hr:(execOp ρ o).run P w = .ok (.value v) w')(hk:K v w'):OpGives P o ρ w K:=by
 unfold OpGives;rw[hr];exact hk
theorem OpGives.call{o:Oper}{ρ:Operand→Value}{w w':World}{f:FuncId}{args:Array Value}{K:Value→World→Prop}(hr:(execOp ρ o).run P w = .ok (.enter f args) w')
  (hk:Calls P f args w' fun e w''=>∃ v,e = .returned v∧K v w''):OpGives P o ρ w K:=by
 unfold OpGives;rw[hr];exact hk
end
end
end Go.Proofs.YtlmabbigfdbmbaaGreatDoor.Ord
namespace Go.Proofs.YtlmabbigfdbmbaaGreatDoor.Ord
section
variable{P:Program}{ops:Array Oper}{Q:Exit→Act→World→Prop}{md:Region.Mode}{a0:Act}
def reaches(md:Region.Mode)(ops:Array Oper):Nat→Nat→Nat→Bool
 | 0,j,i=>waits md ops j i
 | m+1,j,i=>waits md ops j i || (List.range ops.size).any fun k=>waits md ops j k && reaches md ops m k i
theorem reaches_listed{listed:Array Bool}(hcl:∀ j oj,listed.getD j false=true→ops[j]? = some oj→∀ e∈oj.after,Region.binds md e=true→listed.getD e.on false=true) :
  ∀ (m j i:Nat) (oj:Oper),ops[j]? = some oj→(∀ e∈oj.after,Region.binds md e=true→listed.getD e.on false=true)→reaches md ops m j i=true→listed.getD i false=true
 | 0,j,i,oj,hj,hd,h=>by
  obtain⟨oj',ho',e,he,hb,hon⟩:=waits_spec h
  rw[hj]at ho';injection ho' with ho';subst ho'
  have:=hd e he hb
  rwa [hon]at this
 | m+1,j,i,oj,hj,hd,h=>by
  unfold reaches at h
  rw[Bool.or_eq_true]at h
  rcases h with h | h
  ·obtain⟨oj',ho',e,he,hb,hon⟩:=waits_spec h
   rw[hj]at ho';injection ho' with ho';subst ho'
   have:=hd e he hb
   rwa [hon]at this
  ·obtain⟨k,hk,hh⟩:=List.any_eq_true.1 h
   rw[Bool.and_eq_true]at hh
   obtain⟨oj',ho',e,he,hb,hon⟩:=waits_spec hh.1
   rw[hj]at ho';injection ho' with ho';subst ho'
   have hkl:=hd e he hb
   rw[hon]at hkl
   have hks:k < ops.size:=List.mem_range.1 hk
   exact reaches_listed hcl m k i ops[k] (Array.getElem?_eq_getElem hks) (fun e he hb=>hcl k _ hkl (Array.getElem?_eq_getElem hks) e he hb) hh.2
def wiredT(md:Region.Mode)(ops:Array Oper)(n:Nat):Bool:=
 decide (n≤ops.size) && Region.noSelect ops &&
 ((List.range n).all fun i=>match ops[i]? with
  | some oi=>oi.guard.isNone && (oi.after.all fun e=>!Region.binds md e || decide (e.on < i)) &&
   ((List.range n).all fun j=>j == i || (!oneDst (dstAt ops i) (dstAt ops j) &&
    (match dstAt ops j with
     | some d=>!((oi.op.operands.toList.any fun x=>match x with | .tmp t=>t == d | _=>false)) || (if j < i then waits md ops i j else waits md ops j i)
     | none=>true)))
  | none=>false) &&
 ((List.range ops.size).all fun j=>decide (j < n) || (List.range n).all fun i=>reaches md ops 12 j i)
structure WiredT(md:Region.Mode)(ops:Array Oper)(n:Nat):Prop where
 le:n≤ops.size
 sel:Region.noSelect ops=true
 op:∀ i,i < n→∃ oi,ops[i]? = some oi∧oi.guard=none∧∀ e∈oi.after,Region.binds md e=true→e.on < i
 dst:∀ i j,i < n→j < n→j≠i→∀ d,dstAt ops i=some d→dstAt ops j≠some d
 read:∀ i j oi,i < n→j < n→j≠i→ops[i]? = some oi→∀ d,dstAt ops j=some d→Operand.tmp d∈oi.op.operands→(if j < i then waits md ops i j else waits md ops j i)=true
 tail:∀ j,n≤j→j < ops.size→∀ i,i < n→reaches md ops 12 j i=true
theorem wiredT_spec{n:Nat}(h:wiredT md ops n=true):WiredT md ops n:=by
 unfold wiredT at h
 simp only[Bool.and_eq_true,decide_eq_true_eq,List.all_eq_true,List.mem_range,Bool.or_eq_true]at h
 obtain⟨⟨⟨h1,h2⟩,h3⟩,h4⟩:=h
 have h3':∀ i,i < n→∃ oi,ops[i]? = some oi∧oi.guard=none∧(∀ e∈oi.after,Region.binds md e=true→e.on < i)∧
   ∀ j,j < n→j≠i→(oneDst (dstAt ops i) (dstAt ops j)=false∧∀ d,dstAt ops j=some d→Operand.tmp d∈oi.op.operands→(if j < i then waits md ops i j else waits md ops j i)=true):=by
  intro i hi
  have:=h3 i hi
  cases ho:ops[i]? with
  | none=>rw[ho]at this;cases this
  | some oi=>
   rw[ho]at this
   simp only[Bool.and_eq_true,Option.isNone_iff_eq_none,Array.all_eq_true_iff_forall_mem,Bool.or_eq_true,Bool.not_eq_true',decide_eq_true_eq,List.all_eq_true,List.mem_range,beq_iff_eq]at this
   obtain⟨⟨g1,g2⟩,g3⟩:=this
   refine⟨oi,rfl,g1,fun e he hb=>?_,fun j hj hji=>?_⟩
   ·rcases g2 e he with x | x
    ·rw[x]at hb;cases hb
    ·exact x
   ·rcases g3 j hj with x | ⟨x1,x2⟩
    ·exact absurd x hji
    ·refine⟨x1,fun d hd hmem=>?_⟩
     rw[hd]at x2
     simp only[Bool.or_eq_true,Bool.not_eq_true']at x2
     rcases x2 with y | y
     ·have:(oi.op.operands.toList.any fun x=>match x with | .tmp t=>t == d | _=>false)=true:=
       List.any_eq_true.2 ⟨.tmp d,by simpa using hmem,by simp⟩
      rw[this]at y;cases y
     ·exact y
 refine⟨h1,h2,fun i hi=>?_,fun i j hi hj hji d hd hd'=>?_,fun i j oi hi hj hji ho d hd hm=>?_,fun j hj hjs i hi=>?_⟩
 ·obtain⟨oi,a,b,c,_⟩:=h3' i hi;exact⟨oi,a,b,c⟩
 ·obtain⟨oi,_,_,_,f⟩:=h3' i hi
  have:=(f j hj hji).1
  rw[hd,hd']at this
  simp[oneDst]at this
 ·obtain⟨oi',a,_,_,f⟩:=h3' i hi
  rw[ho]at a;injection a with a;subst a
  exact(f j hj hji).2 d hd hm
 ·rcases h4 j hjs with x | x
  ·omega
  ·exact x i hi
section
variable{n:Nat}(S:(Nat→Bool)→World→Prop)(R:Nat→World→World→Prop)(φ:Nat→Value→World→Prop)
theorem region_core2(hw:WiredT md ops n)(hφ:∀ i j v w w',i≠j→φ i v w→R j w w'→φ i v w')
  (step:∀ i oi,i < n→ops[i]? = some oi→∀ g w L,L i=false→S L w→(∀ j,j < i→waits md ops i j=true→φ j (g j) w)→
   OpGives P oi (pre ops a0 g i).eval w (fun v w'=>R i w w'∧φ i v w'∧S (fun k=>if k=i then true else L k) w'))
  (fin:∀ g w L,S L w→(∀ i,i < n→φ i (g i) w)→wpAny P md ops Q (ops.size - n) (doneN ops n) (pre ops a0 g n) w) :
  ∀ (m:Nat) (listed:Array Bool) (g:Nat→Value) (w:World),(List.range n).countP (fun j=>!listed.getD j false)=m→listed.size=ops.size→
   (∀ j oj,listed.getD j false=true→ops[j]? = some oj→∀ e∈oj.after,Region.binds md e=true→listed.getD e.on false=true)→
   (∀ j,n≤j→listed.getD j false=false)→S (fun k=>listed.getD k false) w→(∀ j,j < n→listed.getD j false=true→φ j (g j) w)→
   wpAny P md ops Q (m+(ops.size - n)) listed (frL ops a0 g (fun j=>listed.getD j false) n) w:=by
 intro m
 induction m with
 | zero=>
  intro listed g w hc hsz hcl htl hSw hph
  have hall:∀ j,j < n→listed.getD j false=true:=fun j hj=>by
   have:=count_zero _ n hc j hj;simpa using this
  have hl:listed=doneN ops n:=by
   apply Array.ext
   ·simp[doneN,hsz]
   ·intro j h1 h2
    have e:listed[j]=listed.getD j false:=by simp[h1]
    rw[e]
    simp only[doneN,List.getElem_toArray,List.getElem_map,List.getElem_range]
    by_cases hj:j < n
    ·simp[hall j hj,hj]
    ·rw[htl j (by omega)];simp[hj]
  rw[frL_all g _ n hall,Nat.zero_add]
  subst hl
  exact fin g w _ hSw (fun i hi=>hph i hi (hall i hi))
 | succ m ih=>
  intro listed g w hc hsz hcl htl hSw hph
  rw[show m+1+(ops.size - n)=(m+(ops.size - n))+1 by omega]
  have hex:∃ i,i < n∧listed.getD i false=false:=by
   apply Classical.byContradiction
   intro hno
   have:(List.range n).countP (fun j=>!listed.getD j false)=0:=by
    rw[List.countP_eq_zero]
    intro j hj
    have hj':=List.mem_range.1 hj
    cases hl:listed.getD j false with
    | true=>simp
    | false=>exact absurd ⟨j,hj',hl⟩ hno
   omega
  have hunl:∀ j,j < ops.size→(listed.getD j true=false↔listed.getD j false=false):=fun j hj=>by simp[hsz,hj]
  have hne:Region.ready md ops listed≠[]:=by
   intro h0
   obtain⟨i,hi,hl⟩:=hex
   have key:∀ d i,i=d→i < n→listed.getD i false=false→False:=by
    intro d
    induction d using Nat.strongRecOn with
    | _ d ihd=>
     intro i hid hi hl
     obtain⟨oi,ho,_,hdep⟩:=hw.op i hi
     have:i∈Region.ready md ops listed:=mem_ready.2 ⟨(hunl i (by have:=hw.le;omega)).2 hl,oi,ho,fun e he hb=>by
      have hlt:=hdep e he hb
      cases hx:listed.getD e.on false with
      | true=>rfl
      | false=>exact(ihd e.on (by omega) e.on rfl (by omega) hx).elim⟩
     rw[h0]at this;cases this
   exact key i i rfl hi hl
  refine⟨fun h0=>absurd h0 hne,fun j hj=>?_⟩
  obtain⟨hjun,oj,hoj,hdeps⟩:=mem_ready.1 hj
  have hjs:j < ops.size:=(Array.getElem?_eq_some_iff.1 hoj).1
  have hjl:=(hunl j hjs).1 hjun
  have hjn:j < n:=by
   rcases Nat.lt_or_ge j n with h | h
   ·exact h
   ·obtain⟨i,hi,hl⟩:=hex
    have:=reaches_listed hcl 12 j i oj hoj hdeps (hw.tail j h hjs i hi)
    rw[hl]at this;cases this
  obtain⟨oj2,ho2,hguard,_⟩:=hw.op j hjn
  rw[hoj]at ho2;injection ho2 with ho2;subst ho2
  have hread:execOp (frL ops a0 g (fun j=>listed.getD j false) n).eval oj=execOp (pre ops a0 g j).eval oj:=by
   rw[← frL_pre (ops:=ops) (a0:=a0) g j n (by omega)]
   refine execOp_congr oj (fun cs b=>Region.noSelect_spec hw.sel j oj cs b hoj) (fun x hx=>?_)
   cases x with
   | tmp t=>
    refine frL_agree g _ _ t n (fun k hk hdk=>?_)
    by_cases hkj:k=j
    ·subst hkj;simp[hjl]
    ·have:=hw.read j k oj hjn hk hkj hoj t hdk hx
     by_cases hlt:k < j
     ·rw[if_pos hlt]at this
      obtain⟨o',ho',e,he,hb,hon⟩:=waits_spec this
      rw[hoj]at ho';injection ho' with ho';subst ho'
      have h2:=hdeps e he hb
      rw[hon]at h2
      simp only[h2,decide_eq_true hlt]
     ·rw[if_neg hlt]at this
      obtain⟨o',ho',e,he,hb,hon⟩:=waits_spec this
      have hnl:listed.getD k false=false:=by
       cases hx:listed.getD k false with
       | false=>rfl
       | true=>
        have:=hcl k o' hx ho' e he hb
        rw[hon,hjl]at this;cases this
      simp only[hnl,decide_eq_false hlt]
   | _=>rfl
  have hdst:oj.dst=dstAt ops j:=by simp[dstAt,hoj]
  have hst:=step j oj hjn hoj g w _ hjl hSw (fun k hk hwk=>by
   obtain⟨o',ho',e,he,hb,hon⟩:=waits_spec hwk
   rw[hoj]at ho';injection ho' with ho';subst ho'
   have h2:=hdeps e he hb
   rw[hon]at h2
   exact hph k (by omega) h2)
  refine OpGives.wpOp hoj hguard ?_
  unfold OpGives at hst ⊢
  rw[hread]
  refine OpGives.mono (o:=oj) (ρ:=(pre ops a0 g j).eval) hst (fun v w' ⟨hR,hphv,hSn⟩=>?_)
  have hL:∀ k,(listed.setIfInBounds j true).getD k false=if k=j then true else listed.getD k false:=fun k=>by
   by_cases hk:k=j
   ·subst hk;simp[hsz,hjs]
   ·simp only[hk,if_false];exact getD_set_ne false (fun x=>hk x.symm)
  have hfr:(frL ops a0 g (fun j=>listed.getD j false) n).put oj.dst v=frL ops a0 (upd g j v) (fun k=>(listed.setIfInBounds j true).getD k false) n:=by
   rw[hdst]
   refine(frL_upd n g _ _ j v hjl (by simp[hL]) (fun k hk=>by simp[hL,hk]) (fun k hk hkj d hd=>hw.dst j k hjn hk hkj d hd) n (Nat.le_refl _) hjn).symm
  rw[hfr]
  refine ih (listed.setIfInBounds j true) (upd g j v) w' ?_ (by simp[hsz]) ?_ ?_ (by rw[show(fun k=>(listed.setIfInBounds j true).getD k false)=(fun k=>if k=j then true else listed.getD k false)from funext hL];exact hSn) ?_
  ·have:=count_step (fun k=>!listed.getD k false) (fun k=>!(listed.setIfInBounds j true).getD k false) j (by simp[hjl]) (by simp[hL]) (fun k hk=>by simp[hL,hk]) n hjn
   omega
  ·intro k ok hk hok e he hb
   rw[hL]at hk ⊢
   by_cases hkj:k=j
   ·subst hkj
    rw[hoj]at hok;injection hok with hok;subst hok
    split
    ·rfl
    ·exact hdeps e he hb
   ·rw[if_neg hkj]at hk
    split
    ·rfl
    ·exact hcl k ok hk hok e he hb
  ·intro k hk
   rw[hL,if_neg (by omega)];exact htl k hk
  ·intro k hk hl
   by_cases hkj:k=j
   ·subst hkj;rw[upd_same];exact hphv
   ·rw[upd_other g v hkj]
    rw[hL,if_neg hkj]at hl
    exact hφ _ _ _ _ _ hkj (hph k hk hl) hR
end
def Rsel(d:Nat)(R R0:World→World→Prop)(i:Nat):World→World→Prop:=if i=d then R else R0
theorem rsel_ne{d i:Nat}{R R0:World→World→Prop}(h:i≠d):Rsel d R R0 i=R0:=if_neg h
theorem rsel_eq{d:Nat}{R R0:World→World→Prop} : Rsel d R R0 d=R:=if_pos rfl
def StepsD(P:Program)(ops:Array Oper)(a0:Act)(d:Nat)(S A:World→Prop)(R R0:World→World→Prop)(pd:Value→World→Prop)(all:List (Fact R)):Nat→List Oper→List (Fact R)→Prop
 | _,[],[]=>True
 | i,o :: os,f :: fs=>(∀ (g:Nat→Value) (w:World),S w→(i=d→A w)→(∀ j,j < i→waits .any ops i j=true→factP all j (g j) w)→
   OpGives P o (pre ops a0 g i).eval w (fun v w'=>Rsel d R R0 i w w'∧f.p v w'∧(i=d→pd v w')))∧StepsD P ops a0 d S A R R0 pd all (i+1) os fs
 | _,_,_=>False
variable{d:Nat}{S A:World→Prop}{R R0:World→World→Prop}{pd:Value→World→Prop}{all:List (Fact R)}
theorem stepsD_nil{i:Nat} : StepsD P ops a0 d S A R R0 pd all i [] []:=trivial
theorem stepsD_cons{i:Nat}{o:Oper}{os:List Oper}{f:Fact R}{fs:List (Fact R)}
  (h:∀ (g:Nat→Value) (w:World),S w→(i=d→A w)→(∀ j,j < i→waits .any ops i j=true→factP all j (g j) w)→OpGives P o (pre ops a0 g i).eval w (fun v w'=>Rsel d R R0 i w w'∧f.p v w'∧(i=d→pd v w')))
  (rest:StepsD P ops a0 d S A R R0 pd all (i+1) os fs):StepsD P ops a0 d S A R R0 pd all i (o :: os) (f :: fs):=⟨h,rest⟩
theorem stepsD_get:∀ (os:List Oper) (fs:List (Fact R)) (k:Nat),StepsD P ops a0 d S A R R0 pd all k os fs→
  ∀ i o,os[i]? = some o→∃ f,fs[i]? = some f∧(∀ (g:Nat→Value) (w:World),S w→(k+i=d→A w)→(∀ j,j < k+i→waits .any ops (k+i) j=true→factP all j (g j) w)→
   OpGives P o (pre ops a0 g (k+i)).eval w (fun v w'=>Rsel d R R0 (k+i) w w'∧f.p v w'∧(k+i=d→pd v w')))
 | [],_,_,_,i,o,h=>by simp at h
 | o :: os,[],_,hs,_,_,_=>by simp[StepsD]at hs
 | o :: os,f :: fs,k,hs,i,o',h=>by
  cases i with
  | zero=>
   simp at h;subst h
   exact⟨f,rfl,hs.1⟩
  | succ i=>
   obtain⟨f',hf,hx⟩:=stepsD_get os fs (k+1) hs.2 i o' (by simpa using h)
   refine⟨f',by simpa using hf,?_⟩
   have e:k+1+i=k+(i+1):=by omega
   rw[e]at hx
   exact hx
theorem OpGives.ne{o:Oper}{ρ:Operand→Value}{w:World}{i:Nat}{f:Fact R}(hid:i≠d)(h:OpGives P o ρ w (fun v w'=>R0 w w'∧f.p v w')) :
  OpGives P o ρ w (fun v w'=>Rsel d R R0 i w w'∧f.p v w'∧(i=d→pd v w')):=
 h.mono fun v w' ⟨h1,h2⟩=>⟨by rw[rsel_ne hid];exact h1,h2,fun e=>absurd e hid⟩
theorem OpGives.eqd{o:Oper}{ρ:Operand→Value}{w:World}{f:Fact R}(h:OpGives P o ρ w (fun v w'=>R w w'∧f.p v w'∧pd v w')) :
  OpGives P o ρ w (fun v w'=>Rsel d R R0 d w w'∧f.p v w'∧(d=d→pd v w')):=
 h.mono fun v w' ⟨h1,h2,h3⟩=>⟨by rw[rsel_eq];exact h1,h2,fun _=>h3⟩
def noF(R:World→World→Prop):Fact R:=⟨fun _ _=>True,fun _ _ _ _ _=>trivial⟩
theorem wp_region_factsD {id : Nat} {w : World} (d : Nat) {S A : World → Prop} {R R0 : World → World → Prop} {pd : Value → World → Prop} (fs : List (Fact R)) (hm : P.follows .mixedOrders = true) (hw : wiredT .any ops fs.length = true)
    (hS : ∀ w w', S w → R w w' → S w') (hA : ∀ w w', A w → R0 w w' → A w') (hR : ∀ w w', R0 w w' → R w w') (hpd : ∀ v w w', pd v w → R0 w w' → pd v w') (h0 : S w.drew ∧ A w.drew) (steps : StepsD P ops a0 d S A R R0 pd fs 0 (ops.toList.take fs.length) fs)
    (fin : ∀ g w, S w → (∀ i, i < fs.length → factP fs i (g i) w) → (d < fs.length → pd (g d) w) → wpAny P .any ops Q (ops.size - fs.length) (doneN ops fs.length) (pre ops a0 g fs.length) w) :
    (Code.region id ops true).wp P Q a0 w := by
  refine wp_region_any hm ?_
  have hW := wiredT_spec hw
  have hf : ∀ j, (Array.replicate ops.size false).getD j false = false := fun j => by
    rcases Nat.lt_or_ge j ops.size with h | h <;> simp [h]
  have hRR : ∀ i w w', Rsel d R R0 i w w' → R w w' := fun i w w' h => by
    by_cases e : i = d
    · subst e; rwa [rsel_eq] at h
    · rw [rsel_ne e] at h; exact hR _ _ h
  have h := region_core2 (Q := Q) (a0 := a0) (fun L w => S w ∧ (L d = false → A w)) (Rsel d R R0) (fun i v w => factP fs i v w ∧ (i = d → pd v w)) hW
    (fun i j v w w' hij h hRs => by
      refine ⟨?_, fun e => ?_⟩
      · have h1 := h.1
        unfold factP at *
        split
        · rename_i f hf; rw [hf] at h1; exact f.st _ _ _ h1 (hRR _ _ _ hRs)
        · trivial
      · rw [rsel_ne (fun x => hij (by rw [e, x]))] at hRs
        exact hpd _ _ _ (h.2 e) hRs)
    (fun i oi hi ho g w L hLi hSw hd => by
      obtain ⟨f, hf, hx⟩ := stepsD_get _ _ 0 steps i oi (by rw [List.getElem?_take, if_pos hi]; simpa using ho)
      have := hx g w hSw.1 (fun e => hSw.2 (by rw [Nat.zero_add] at e; rw [← e]; exact hLi)) (fun j hj hw => (hd j (by omega) (by simpa using hw)).1)
      rw [Nat.zero_add] at this
      refine this.mono fun v w' ⟨hRs, hp, hq⟩ => ?_
      refine ⟨hRs, ⟨by unfold factP; rw [hf]; exact hp, hq⟩, hS _ _ hSw.1 (hRR _ _ _ hRs), fun hl => ?_⟩
      simp only at hl
      by_cases e : d = i
      · rw [if_pos e] at hl; cases hl
      · rw [if_neg e] at hl
        rw [rsel_ne (fun x => e x.symm)] at hRs
        exact hA _ _ (hSw.2 hl) hRs)
    (fun g w L hSw hp => fin g w hSw.1 (fun i hi => (hp i hi).1) (fun hd => (hp d hd).2 rfl)) fs.length (Array.replicate ops.size false) (fun _ => undef) w.drew
    (by rw [List.countP_eq_length.2]; · simp
        · intro j _; simp only [hf]; rfl) (by simp) (fun j oj hj => by rw [hf] at hj; cases hj) (fun j _ => hf j) ⟨h0.1, fun _ => h0.2⟩ (fun j _ hj => by rw [hf] at hj; cases hj)
  have e1 : fs.length + (ops.size - fs.length) = ops.size := by have := hW.le; omega
  rw [e1] at h
  have e2 : ∀ m, frL ops a0 (fun _ => undef) (fun j => (Array.replicate ops.size false).getD j false) m = a0 := by
    intro m
    induction m with
    | zero => rfl
    | succ m ihm => unfold frL; rw [hf, ihm]; simp
  rw [e2] at h
  exact h
theorem stepsD_of:∀ (os:List Oper) (fs:List (Fact R)) (i:Nat),d=i+fs.length→Steps P ops a0 S R all i os fs→StepsD P ops a0 d S (fun _=>True) R R (fun _ _=>True) all i os fs
 | [],[],_,_,_=>trivial
 | [],_ :: _,_,_,h=>h
 | _ :: _,[],_,_,h=>h
 | o :: os,f :: fs,i,hd,h=>⟨fun g w hS _ hj=>(h.1 g w hS hj).mono fun v w' ⟨h1,h2⟩=>⟨by rw[rsel_ne (by simp at hd;omega)];exact h1,h2,fun _=>trivial⟩,stepsD_of os fs (i+1) (by simp at hd ⊢;omega) h.2⟩
theorem wp_region_factsT{id:Nat}{w:World}{S:World→Prop}{R:World→World→Prop}(fs:List (Fact R))(hm:P.follows .mixedOrders=true)(hw:wiredT .any ops fs.length=true)
  (hS:∀ w w',S w→R w w'→S w') (h0:S w.drew) (steps:Steps P ops a0 S R fs 0 (ops.toList.take fs.length) fs)
  (fin:∀ g w,S w→(∀ i,i < fs.length→factP fs i (g i) w)→wpAny P .any ops Q (ops.size - fs.length) (doneN ops fs.length) (pre ops a0 g fs.length) w) :
  (Code.region id ops true).wp P Q a0 w:=
 wp_region_factsD fs.length (A:=fun _=>True) (R0:=R) (pd:=fun _ _=>True) fs hm hw hS (fun _ _ _ _=>trivial) (fun _ _ h=>h) (fun _ _ _ _ _=>trivial) ⟨h0,trivial⟩ (stepsD_of _ _ 0 (by omega) steps) (fun g w hs hf _=>fin g w hs hf)
end
end Go.Proofs.YtlmabbigfdbmbaaGreatDoor.Ord
namespace Go.Proofs.YtlmabbigfdbmbaaGreatDoor.Ord
section
variable{P:Program}{ops:Array Oper}{Q:Exit→Act→World→Prop}{md:Region.Mode}{a0:Act}
section
variable{n:Nat}(S:(Nat→Bool)→World→Prop)(R:Nat→World→World→Prop)(φ:Nat→Value→World→Prop)
theorem region_core3(hw:WiredT md ops n)(hφ:∀ i j v w w',i≠j→φ i v w→R j w w'→φ i v w')
  (step:∀ i oi,i < n→ops[i]? = some oi→∀ g w L,L i=false→S L w→(∀ j,j < i→waits md ops i j=true→φ j (g j) w)→
   OpGives P oi (pre ops a0 g i).eval w (fun v w'=>R i w w'∧φ i v w'∧S (fun k=>if k=i then true else L k) w'))
  (fin:∀ g w L,(∀ i,i < n→L i=true)→S L w→(∀ i,i < n→φ i (g i) w)→wpAny P md ops Q (ops.size - n) (doneN ops n) (pre ops a0 g n) w) :
  ∀ (m:Nat) (listed:Array Bool) (g:Nat→Value) (w:World),(List.range n).countP (fun j=>!listed.getD j false)=m→listed.size=ops.size→
   (∀ j oj,listed.getD j false=true→ops[j]? = some oj→∀ e∈oj.after,Region.binds md e=true→listed.getD e.on false=true)→
   (∀ j,n≤j→listed.getD j false=false)→S (fun k=>listed.getD k false) w→(∀ j,j < n→listed.getD j false=true→φ j (g j) w)→
   wpAny P md ops Q (m+(ops.size - n)) listed (frL ops a0 g (fun j=>listed.getD j false) n) w:=by
 intro m
 induction m with
 | zero=>
  intro listed g w hc hsz hcl htl hSw hph
  have hall:∀ j,j < n→listed.getD j false=true:=fun j hj=>by
   have:=count_zero _ n hc j hj;simpa using this
  have hl:listed=doneN ops n:=by
   apply Array.ext
   ·simp[doneN,hsz]
   ·intro j h1 h2
    have e:listed[j]=listed.getD j false:=by simp[h1]
    rw[e]
    simp only[doneN,List.getElem_toArray,List.getElem_map,List.getElem_range]
    by_cases hj:j < n
    ·simp[hall j hj,hj]
    ·rw[htl j (by omega)];simp[hj]
  rw[frL_all g _ n hall,Nat.zero_add]
  subst hl
  exact fin g w _ (fun i hi=>hall i hi) hSw (fun i hi=>hph i hi (hall i hi))
 | succ m ih=>
  intro listed g w hc hsz hcl htl hSw hph
  rw[show m+1+(ops.size - n)=(m+(ops.size - n))+1 by omega]
  have hex:∃ i,i < n∧listed.getD i false=false:=by
   apply Classical.byContradiction
   intro hno
   have:(List.range n).countP (fun j=>!listed.getD j false)=0:=by
    rw[List.countP_eq_zero]
    intro j hj
    have hj':=List.mem_range.1 hj
    cases hl:listed.getD j false with
    | true=>simp
    | false=>exact absurd ⟨j,hj',hl⟩ hno
   omega
  have hunl:∀ j,j < ops.size→(listed.getD j true=false↔listed.getD j false=false):=fun j hj=>by simp[hsz,hj]
  have hne:Region.ready md ops listed≠[]:=by
   intro h0
   obtain⟨i,hi,hl⟩:=hex
   have key:∀ d i,i=d→i < n→listed.getD i false=false→False:=by
    intro d
    induction d using Nat.strongRecOn with
    | _ d ihd=>
     intro i hid hi hl
     obtain⟨oi,ho,_,hdep⟩:=hw.op i hi
     have:i∈Region.ready md ops listed:=mem_ready.2 ⟨(hunl i (by have:=hw.le;omega)).2 hl,oi,ho,fun e he hb=>by
      have hlt:=hdep e he hb
      cases hx:listed.getD e.on false with
      | true=>rfl
      | false=>exact(ihd e.on (by omega) e.on rfl (by omega) hx).elim⟩
     rw[h0]at this;cases this
   exact key i i rfl hi hl
  refine⟨fun h0=>absurd h0 hne,fun j hj=>?_⟩
  obtain⟨hjun,oj,hoj,hdeps⟩:=mem_ready.1 hj
  have hjs:j < ops.size:=(Array.getElem?_eq_some_iff.1 hoj).1
  have hjl:=(hunl j hjs).1 hjun
  have hjn:j < n:=by
   rcases Nat.lt_or_ge j n with h | h
   ·exact h
   ·obtain⟨i,hi,hl⟩:=hex
    have:=reaches_listed hcl 12 j i oj hoj hdeps (hw.tail j h hjs i hi)
    rw[hl]at this;cases this
  obtain⟨oj2,ho2,hguard,_⟩:=hw.op j hjn
  rw[hoj]at ho2;injection ho2 with ho2;subst ho2
  have hread:execOp (frL ops a0 g (fun j=>listed.getD j false) n).eval oj=execOp (pre ops a0 g j).eval oj:=by
   rw[← frL_pre (ops:=ops) (a0:=a0) g j n (by omega)]
   refine execOp_congr oj (fun cs b=>Region.noSelect_spec hw.sel j oj cs b hoj) (fun x hx=>?_)
   cases x with
   | tmp t=>
    refine frL_agree g _ _ t n (fun k hk hdk=>?_)
    by_cases hkj:k=j
    ·subst hkj;simp[hjl]
    ·have:=hw.read j k oj hjn hk hkj hoj t hdk hx
     by_cases hlt:k < j
     ·rw[if_pos hlt]at this
      obtain⟨o',ho',e,he,hb,hon⟩:=waits_spec this
      rw[hoj]at ho';injection ho' with ho';subst ho'
      have h2:=hdeps e he hb
      rw[hon]at h2
      simp only[h2,decide_eq_true hlt]
     ·rw[if_neg hlt]at this
      obtain⟨o',ho',e,he,hb,hon⟩:=waits_spec this
      have hnl:listed.getD k false=false:=by
       cases hx:listed.getD k false with
       | false=>rfl
       | true=>
        have:=hcl k o' hx ho' e he hb
        rw[hon,hjl]at this;cases this
      simp only[hnl,decide_eq_false hlt]
   | _=>rfl
  have hdst:oj.dst=dstAt ops j:=by simp[dstAt,hoj]
  have hst:=step j oj hjn hoj g w _ hjl hSw (fun k hk hwk=>by
   obtain⟨o',ho',e,he,hb,hon⟩:=waits_spec hwk
   rw[hoj]at ho';injection ho' with ho';subst ho'
   have h2:=hdeps e he hb
   rw[hon]at h2
   exact hph k (by omega) h2)
  refine OpGives.wpOp hoj hguard ?_
  unfold OpGives at hst ⊢
  rw[hread]
  refine OpGives.mono (o:=oj) (ρ:=(pre ops a0 g j).eval) hst (fun v w' ⟨hR,hphv,hSn⟩=>?_)
  have hL:∀ k,(listed.setIfInBounds j true).getD k false=if k=j then true else listed.getD k false:=fun k=>by
   by_cases hk:k=j
   ·subst hk;simp[hsz,hjs]
   ·simp only[hk,if_false];exact getD_set_ne false (fun x=>hk x.symm)
  have hfr:(frL ops a0 g (fun j=>listed.getD j false) n).put oj.dst v=frL ops a0 (upd g j v) (fun k=>(listed.setIfInBounds j true).getD k false) n:=by
   rw[hdst]
   refine(frL_upd n g _ _ j v hjl (by simp[hL]) (fun k hk=>by simp[hL,hk]) (fun k hk hkj d hd=>hw.dst j k hjn hk hkj d hd) n (Nat.le_refl _) hjn).symm
  rw[hfr]
  refine ih (listed.setIfInBounds j true) (upd g j v) w' ?_ (by simp[hsz]) ?_ ?_ (by rw[show(fun k=>(listed.setIfInBounds j true).getD k false)=(fun k=>if k=j then true else listed.getD k false)from funext hL];exact hSn) ?_
  ·have:=count_step (fun k=>!listed.getD k false) (fun k=>!(listed.setIfInBounds j true).getD k false) j (by simp[hjl]) (by simp[hL]) (fun k hk=>by simp[hL,hk]) n hjn
   omega
  ·intro k ok hk hok e he hb
   rw[hL]at hk ⊢
   by_cases hkj:k=j
   ·subst hkj
    rw[hoj]at hok;injection hok with hok;subst hok
    split
    ·rfl
    ·exact hdeps e he hb
   ·rw[if_neg hkj]at hk
    split
    ·rfl
    ·exact hcl k ok hk hok e he hb
  ·intro k hk
   rw[hL,if_neg (by omega)];exact htl k hk
  ·intro k hk hl
   by_cases hkj:k=j
   ·subst hkj;rw[upd_same];exact hphv
   ·rw[upd_other g v hkj]
    rw[hL,if_neg hkj]at hl
    exact hφ _ _ _ _ _ hkj (hph k hk hl) hR
end
def anyR:World→World→Prop:=fun _ _=>True
variable{S:(Nat→Bool)→World→Prop}{all:List (Fact anyR)}
end
end Go.Proofs.YtlmabbigfdbmbaaGreatDoor.Ord
namespace Go.Proofs.YtlmabbigfdbmbaaGreatDoor.Ord
section
variable{P:Program}{ops:Array Oper}{Q:Exit→Act→World→Prop}{a0:Act}
def eqM(V:Value):Value→World→Prop:=fun v _=>v=V
def factM(fs:List (Value→World→Prop))(i:Nat)(v:Value)(w:World):Prop:=
 match fs[i]? with
 | some f=>f v w
 | none=>True
def StepsM(P:Program)(ops:Array Oper)(a0:Act)(S:(Nat→Bool)→World→Prop)(R:Nat→World→World→Prop)(all:List (Value→World→Prop)):Nat→List Oper→List (Value→World→Prop)→Prop
 | _,[],[]=>True
 | i,o :: os,f :: fs=>(∀ (g:Nat→Value) (w:World) (L:Nat→Bool),L i=false→S L w→(∀ j,j < i→waits .any ops i j=true→factM all j (g j) w)→
   OpGives P o (pre ops a0 g i).eval w (fun v w'=>R i w w'∧f v w'∧S (fun k=>if k=i then true else L k) w'))∧StepsM P ops a0 S R all (i+1) os fs
 | _,_,_=>False
variable{S:(Nat→Bool)→World→Prop}{R:Nat→World→World→Prop}{all:List (Value→World→Prop)}
theorem stepsM_nil{i:Nat} : StepsM P ops a0 S R all i [] []:=trivial
theorem stepsM_cons{i:Nat}{o:Oper}{os:List Oper}{f:Value→World→Prop}{fs:List (Value→World→Prop)}
  (h:∀ (g:Nat→Value) (w:World) (L:Nat→Bool),L i=false→S L w→(∀ j,j < i→waits .any ops i j=true→factM all j (g j) w)→OpGives P o (pre ops a0 g i).eval w (fun v w'=>R i w w'∧f v w'∧S (fun k=>if k=i then true else L k) w'))
  (rest:StepsM P ops a0 S R all (i+1) os fs):StepsM P ops a0 S R all i (o :: os) (f :: fs):=⟨h,rest⟩
theorem stepsM_get:∀ (os:List Oper) (fs:List (Value→World→Prop)) (k:Nat),StepsM P ops a0 S R all k os fs→
  ∀ i o,os[i]? = some o→∃ f,fs[i]? = some f∧(∀ (g:Nat→Value) (w:World) (L:Nat→Bool),L (k+i)=false→S L w→(∀ j,j < k+i→waits .any ops (k+i) j=true→factM all j (g j) w)→
   OpGives P o (pre ops a0 g (k+i)).eval w (fun v w'=>R (k+i) w w'∧f v w'∧S (fun x=>if x=k+i then true else L x) w'))
 | [],_,_,_,i,o,h=>by simp at h
 | o :: os,[],_,hs,_,_,_=>by simp[StepsM]at hs
 | o :: os,f :: fs,k,hs,i,o',h=>by
  cases i with
  | zero=>
   simp at h;subst h
   exact⟨f,rfl,hs.1⟩
  | succ i=>
   obtain⟨f',hf,hx⟩:=stepsM_get os fs (k+1) hs.2 i o' (by simpa using h)
   refine⟨f',by simpa using hf,?_⟩
   have e:k+1+i=k+(i+1):=by omega
   rw[e]at hx
   exact hx
theorem wp_region_factsM {id : Nat} {w : World} {S : (Nat → Bool) → World → Prop} (R : Nat → World → World → Prop) (fs : List (Value → World → Prop)) (hm : P.follows .mixedOrders = true) (hw : wiredT .any ops fs.length = true)
    (hst : ∀ i j v w w', i ≠ j → factM fs i v w → R j w w' → factM fs i v w') (h0 : S (fun _ => false) w.drew) (steps : StepsM P ops a0 S R fs 0 (ops.toList.take fs.length) fs)
    (fin : ∀ g w L, (∀ i, i < fs.length → L i = true) → S L w → (∀ i, i < fs.length → factM fs i (g i) w) → wpAny P .any ops Q (ops.size - fs.length) (doneN ops fs.length) (pre ops a0 g fs.length) w) :
    (Code.region id ops true).wp P Q a0 w := by
  refine wp_region_any hm ?_
  have hW := wiredT_spec hw
  have hf : ∀ j, (Array.replicate ops.size false).getD j false = false := fun j => by
    rcases Nat.lt_or_ge j ops.size with h | h <;> simp [h]
  have h := region_core3 (Q := Q) (a0 := a0) (fun L w => S L w) R (factM fs) hW
    hst
    (fun i oi hi ho g w L hLi hSw hd => by
      obtain ⟨f, hf, hx⟩ := stepsM_get _ _ 0 steps i oi (by rw [List.getElem?_take, if_pos hi]; simpa using ho)
      have := hx g w L (by rw [Nat.zero_add]; exact hLi) hSw (fun j hj hw => hd j (by omega) (by simpa using hw))
      simp only [Nat.zero_add] at this
      exact this.mono fun v w' ⟨hr, hp, hs⟩ => ⟨hr, by unfold factM; rw [hf]; exact hp, hs⟩)
    (fun g w L hL hSw hp => fin g w L hL hSw hp) fs.length (Array.replicate ops.size false) (fun _ => undef) w.drew
    (by rw [List.countP_eq_length.2]; · simp
        · intro j _; simp only [hf]; rfl) (by simp) (fun j oj hj => by rw [hf] at hj; cases hj) (fun j _ => hf j) (by rw [show (fun k => (Array.replicate ops.size false).getD k false) = fun _ => false from funext hf]; exact h0) (fun j _ hj => by rw [hf] at hj; cases hj)
  have e1 : fs.length + (ops.size - fs.length) = ops.size := by have := hW.le; omega
  rw [e1] at h
  have e2 : ∀ m, frL ops a0 (fun _ => undef) (fun j => (Array.replicate ops.size false).getD j false) m = a0 := by
    intro m
    induction m with
    | zero => rfl
    | succ m ihm => unfold frL; rw [hf, ihm]; simp
  rw [e2] at h
  exact h
end
end Go.Proofs.YtlmabbigfdbmbaaGreatDoor.Ord
namespace Go.Proofs.YtlmabbigfdbmbaaGreatDoor.Ord
section
variable{P:Program}{ops:Array Oper}{Q:Exit→Act→World→Prop}{md:Region.Mode}{a0:Act}
theorem OpGives.wpOpG{i:Nat}{o:Oper}{K:Act→World→Prop}{a:Act}{w:World}(hi:ops[i]? = some o)(hg:Region.wanted o (yielded ops a.tmps)=true)
  (h:OpGives P o a.eval w fun v w'=>K (a.put o.dst v) w'):Go.wpOp P ops Q i K a w:=by
 unfold Go.wpOp;rw[hi];simp only[hg,if_true]
 refine .inl ?_
 unfold Oper.wp
 unfold OpGives at h
 generalize (execOp a.eval o).run P w=r at *
 cases r with
 | halt x w'=>exact h.elim
 | ok n w'=>
  cases n with
  | value v=>exact h
  | skip=>exact h
  | enter f args=>exact h.mono fun e w'' ⟨v,he,hk⟩=>by subst he;exact hk
  | _=>exact h.elim
theorem eval_put_ne(a:Act)(x:Option Tmp)(v:Value)(d:Tmp)(h:x≠some d):(a.put x v).eval (.tmp d)=a.eval (.tmp d):=by
 cases x with
 | none=>rfl
 | some t=>
  have:t≠d:=fun e=>h (by rw[e])
  simp only[Act.put,Act.eval]
  simp[Array.getD_eq_getD_getElem?,Array.getElem?_setIfInBounds,this]
theorem frL_read(g:Nat→Value)(L:Nat→Bool){k:Nat}{d:Tmp}(hk:L k=true)(hd:dstAt ops k=some d):∀ n,k < n→(∀ j,j < n→j≠k→dstAt ops j≠some d)→d < a0.tmps.size→(frL ops a0 g L n).eval (.tmp d)=g k
 | 0,h,_,_=>by omega
 | n+1,h,hu,hs=>by
  unfold frL
  by_cases e:k=n
  ·subst e
   rw[if_pos hk,hd,eval_put_same,frL_size,if_pos hs]
  ·have ih:=frL_read g L hk hd n (by omega) (fun j hj=>hu j (by omega)) hs
   split
   ·rw[eval_put_ne _ _ _ _ (hu n (by omega) (fun x=>e x.symm))];exact ih
   ·exact ih
theorem yielded_of{a:Act}{k:Nat}{d:Tmp}{b:Bool}(hd:dstAt ops k=some d)(h:a.eval (.tmp d) = .bool b):yielded ops a.tmps k=some b:=by
 unfold yielded
 have e:(ops[k]?).bind (·.dst)=some d:=hd
 rw[e,Option.bind_some]
 have h':a.tmps.getD d undef = .bool b:=h
 rw[Array.getD_eq_getD_getElem?]at h'
 cases hx:a.tmps[d]? with
 | none=>rw[hx]at h';cases h'
 | some v=>rw[hx]at h';simp at h';subst h';rfl
def StL(R:World→World→Prop):List (Value→World→Prop)→Prop
 | []=>True
 | f :: fs=>(∀ v w w',f v w→R w w'→f v w')∧StL R fs
theorem StL.eq{R:World→World→Prop}{V:Value}{fs:List (Value→World→Prop)}(h:StL R fs):StL R (eqM V :: fs):=⟨fun _ _ _ h _=>h,h⟩
theorem st_of{R:World→World→Prop} : ∀ {fs:List (Value→World→Prop)},StL R fs→∀ i v w w',factM fs i v w→R w w'→factM fs i v w'
 | [],_,i,v,w,w',h,_=>by unfold factM;simp
 | f :: fs,hs,0,v,w,w',h,hR=>hs.1 v w w' h hR
 | f :: fs,hs,i+1,v,w,w',h,hR=>by
  have:=st_of hs.2 i v w w' (by unfold factM at h ⊢;simpa using h) hR
  unfold factM at this ⊢;simpa using this
def guardOk(md:Region.Mode)(ops:Array Oper)(i sz:Nat)(oi:Oper):Bool:=
 match oi.guard with
 | none=>true
 | some (j,_)=>waits md ops i j && (decide (j < i) && (match dstAt ops j with | some d=>decide (d < sz) | none=>false))
theorem guardOk_spec{i sz:Nat}{oi:Oper}(h:guardOk md ops i sz oi=true):∀ j b,oi.guard=some (j,b)→waits md ops i j=true∧j < i∧∃ d,dstAt ops j=some d∧d < sz:=by
 intro j b hg
 unfold guardOk at h
 rw[hg]at h
 simp only[Bool.and_eq_true,decide_eq_true_eq]at h
 obtain⟨h1,h2,h3⟩:=h
 refine⟨h1,h2,?_⟩
 split at h3
 ·rename_i d hd;exact⟨d,hd,of_decide_eq_true h3⟩
 ·cases h3
def GuardsM(ops:Array Oper)(fs:List (Value→World→Prop)):Prop:=∀ i,i < fs.length→match ops[i]? with
 | some oi=>(match oi.guard with
  | some (j,b)=>∀ v w,factM fs j v w→v = .bool b
  | none=>True)
 | none=>True
def guardsIn(ops:Array Oper)(gs:List (Nat × Bool))(n:Nat):Bool:=(List.range n).all fun i=>match ops[i]? with
 | some oi=>(match oi.guard with
  | some (j,b)=>gs.any fun p=>p.1 == j && p.2 == b
  | none=>true)
 | none=>true
def GuardsL(fs:List (Value→World→Prop)):List (Nat × Bool)→Prop
 | []=>True
 | p :: ps=>(∀ v w,factM fs p.1 v w→v = .bool p.2)∧GuardsL fs ps
theorem guardsL_mem{fs:List (Value→World→Prop)} : ∀ {gs:List (Nat × Bool)},GuardsL fs gs→∀ p∈gs,∀ v w,factM fs p.1 v w→v = .bool p.2
 | [],_,p,hp=>by simp at hp
 | q :: qs,h,p,hp=>by
  rcases List.mem_cons.1 hp with rfl | hp
  ·exact h.1
  ·exact guardsL_mem h.2 p hp
theorem guardsM_of{fs:List (Value→World→Prop)}(gs:List (Nat × Bool)){n:Nat}(hn:fs.length=n)(h:guardsIn ops gs n=true)(hl:GuardsL fs gs):GuardsM ops fs:=by
 intro i hi
 unfold guardsIn at h
 have:=List.all_eq_true.1 h i (List.mem_range.2 (by omega))
 cases ho:ops[i]? with
 | none=>trivial
 | some oi=>
  rw[ho]at this
  simp only at this ⊢
  cases hg:oi.guard with
  | none=>trivial
  | some jb=>
   obtain⟨j,b⟩:=jb
   rw[hg]at this
   obtain⟨q,hq,he⟩:=List.any_eq_true.1 this
   simp only[Bool.and_eq_true,beq_iff_eq]at he
   have:=guardsL_mem hl q hq
   rw[he.1,he.2]at this
   exact this
theorem guardsM_spec{fs:List (Value→World→Prop)}(h:GuardsM ops fs):∀ i oi j b,i < fs.length→ops[i]? = some oi→oi.guard=some (j,b)→∀ v w,factM fs j v w→v = .bool b:=by
 intro i oi j b hi ho hg
 have:=h i hi
 rw[ho]at this
 simp only[hg]at this
 exact this
def wiredG(md:Region.Mode)(ops:Array Oper)(n sz:Nat):Bool:=
 decide (n≤ops.size) && Region.noSelect ops &&
 ((List.range n).all fun i=>match ops[i]? with
  | some oi=>guardOk md ops i sz oi && (oi.after.all fun e=>!Region.binds md e || decide (e.on < i)) &&
   ((List.range n).all fun j=>j == i || (!oneDst (dstAt ops i) (dstAt ops j) &&
    (match dstAt ops j with
     | some d=>!((oi.op.operands.toList.any fun x=>match x with | .tmp t=>t == d | _=>false)) || (if j < i then waits md ops i j else waits md ops j i)
     | none=>true)))
  | none=>false) &&
 ((List.range ops.size).all fun j=>decide (j < n) || (List.range n).all fun i=>reaches md ops 12 j i)
structure WiredG(md:Region.Mode)(ops:Array Oper)(n sz:Nat):Prop where
 le:n≤ops.size
 sel:Region.noSelect ops=true
 op:∀ i,i < n→∃ oi,ops[i]? = some oi∧(∀ e∈oi.after,Region.binds md e=true→e.on < i)∧∀ j b,oi.guard=some (j,b)→waits md ops i j=true∧j < i∧∃ d,dstAt ops j=some d∧d < sz
 dst:∀ i j,i < n→j < n→j≠i→∀ d,dstAt ops i=some d→dstAt ops j≠some d
 read:∀ i j oi,i < n→j < n→j≠i→ops[i]? = some oi→∀ d,dstAt ops j=some d→Operand.tmp d∈oi.op.operands→(if j < i then waits md ops i j else waits md ops j i)=true
 tail:∀ j,n≤j→j < ops.size→∀ i,i < n→reaches md ops 12 j i=true
theorem wiredG_spec{n sz:Nat}(h:wiredG md ops n sz=true):WiredG md ops n sz:=by
 unfold wiredG at h
 simp only[Bool.and_eq_true,decide_eq_true_eq,List.all_eq_true,List.mem_range,Bool.or_eq_true]at h
 obtain⟨⟨⟨h1,h2⟩,h3⟩,h4⟩:=h
 have h3':∀ i,i < n→∃ oi,ops[i]? = some oi∧guardOk md ops i sz oi=true∧(∀ e∈oi.after,Region.binds md e=true→e.on < i)∧
   ∀ j,j < n→j≠i→(oneDst (dstAt ops i) (dstAt ops j)=false∧∀ d,dstAt ops j=some d→Operand.tmp d∈oi.op.operands→(if j < i then waits md ops i j else waits md ops j i)=true):=by
  intro i hi
  have:=h3 i hi
  cases ho:ops[i]? with
  | none=>rw[ho]at this;cases this
  | some oi=>
   rw[ho]at this
   simp only[Bool.and_eq_true,Array.all_eq_true_iff_forall_mem,Bool.or_eq_true,Bool.not_eq_true',decide_eq_true_eq,List.all_eq_true,List.mem_range,beq_iff_eq]at this
   obtain⟨⟨g1,g2⟩,g3⟩:=this
   refine⟨oi,rfl,g1,fun e he hb=>?_,fun j hj hji=>?_⟩
   ·rcases g2 e he with x | x
    ·rw[x]at hb;cases hb
    ·exact x
   ·rcases g3 j hj with x | ⟨x1,x2⟩
    ·exact absurd x hji
    ·refine⟨x1,fun d hd hmem=>?_⟩
     rw[hd]at x2
     simp only[Bool.or_eq_true,Bool.not_eq_true']at x2
     rcases x2 with y | y
     ·have:(oi.op.operands.toList.any fun x=>match x with | .tmp t=>t == d | _=>false)=true:=
       List.any_eq_true.2 ⟨.tmp d,by simpa using hmem,by simp⟩
      rw[this]at y;cases y
     ·exact y
 refine⟨h1,h2,fun i hi=>?_,fun i j hi hj hji d hd hd'=>?_,fun i j oi hi hj hji ho d hd hm=>?_,fun j hj hjs i hi=>?_⟩
 ·obtain⟨oi,a,b,c,_⟩:=h3' i hi;exact⟨oi,a,c,guardOk_spec b⟩
 ·obtain⟨oi,_,_,_,f⟩:=h3' i hi
  have:=(f j hj hji).1
  rw[hd,hd']at this
  simp[oneDst]at this
 ·obtain⟨oi',a,_,_,f⟩:=h3' i hi
  rw[ho]at a;injection a with a;subst a
  exact(f j hj hji).2 d hd hm
 ·rcases h4 j hjs with x | x
  ·omega
  ·exact x i hi
section
variable{n:Nat}(S:(Nat→Bool)→World→Prop)(R:Nat→World→World→Prop)(φ:Nat→Value→World→Prop)
end
section
variable{S:(Nat→Bool)→World→Prop}{R:Nat→World→World→Prop}{all:List (Value→World→Prop)}
end
end
end Go.Proofs.YtlmabbigfdbmbaaGreatDoor.Ord
namespace Go.Proofs.YtlmabbigfdbmbaaGreatDoor.Ord
section
variable{P:Program}{ops:Array Oper}{Q:Exit→Act→World→Prop}{md:Region.Mode}{a0:Act}
section
variable{n:Nat}(S:(Nat→Bool)→(Nat→Value)→World→Prop)(R:Nat→World→World→Prop)(φ:Nat→Value→World→Prop)
theorem region_core6{sz:Nat}(hw:WiredG md ops n sz)(hsz:a0.tmps.size=sz)(hgd:∀ i oi j b,i < n→ops[i]? = some oi→oi.guard=some (j,b)→∀ v w,φ j v w→v = .bool b)(hφ:∀ i j v w w',i≠j→φ i v w→R j w w'→φ i v w')
  (step:∀ i oi,i < n→ops[i]? = some oi→∀ g w L,L i=false→(∀ j,waits md ops i j=true→L j=true)→(∀ k j,L k=true→waits md ops k j=true→L j=true)→S L g w→(∀ j,j < i→waits md ops i j=true→φ j (g j) w)→
   OpGives P oi (pre ops a0 g i).eval w (fun v w'=>R i w w'∧φ i v w'∧S (fun k=>if k=i then true else L k) (upd g i v) w'))
  (fin:∀ g w L,(∀ i,i < n→L i=true)→S L g w→(∀ i,i < n→φ i (g i) w)→wpAny P md ops Q (ops.size - n) (doneN ops n) (pre ops a0 g n) w) :
  ∀ (m:Nat) (listed:Array Bool) (g:Nat→Value) (w:World),(List.range n).countP (fun j=>!listed.getD j false)=m→listed.size=ops.size→
   (∀ j oj,listed.getD j false=true→ops[j]? = some oj→∀ e∈oj.after,Region.binds md e=true→listed.getD e.on false=true)→
   (∀ j,n≤j→listed.getD j false=false)→S (fun k=>listed.getD k false) g w→(∀ j,j < n→listed.getD j false=true→φ j (g j) w)→
   wpAny P md ops Q (m+(ops.size - n)) listed (frL ops a0 g (fun j=>listed.getD j false) n) w:=by
 intro m
 induction m with
 | zero=>
  intro listed g w hc hszl hcl htl hSw hph
  have hall:∀ j,j < n→listed.getD j false=true:=fun j hj=>by
   have:=count_zero _ n hc j hj;simpa using this
  have hl:listed=doneN ops n:=by
   apply Array.ext
   ·simp[doneN,hszl]
   ·intro j h1 h2
    have e:listed[j]=listed.getD j false:=by simp[h1]
    rw[e]
    simp only[doneN,List.getElem_toArray,List.getElem_map,List.getElem_range]
    by_cases hj:j < n
    ·simp[hall j hj,hj]
    ·rw[htl j (by omega)];simp[hj]
  rw[frL_all g _ n hall,Nat.zero_add]
  subst hl
  exact fin g w _ (fun i hi=>hall i hi) hSw (fun i hi=>hph i hi (hall i hi))
 | succ m ih=>
  intro listed g w hc hszl hcl htl hSw hph
  rw[show m+1+(ops.size - n)=(m+(ops.size - n))+1 by omega]
  have hex:∃ i,i < n∧listed.getD i false=false:=by
   apply Classical.byContradiction
   intro hno
   have:(List.range n).countP (fun j=>!listed.getD j false)=0:=by
    rw[List.countP_eq_zero]
    intro j hj
    have hj':=List.mem_range.1 hj
    cases hl:listed.getD j false with
    | true=>simp
    | false=>exact absurd ⟨j,hj',hl⟩ hno
   omega
  have hunl:∀ j,j < ops.size→(listed.getD j true=false↔listed.getD j false=false):=fun j hj=>by simp[hszl,hj]
  have hne:Region.ready md ops listed≠[]:=by
   intro h0
   obtain⟨i,hi,hl⟩:=hex
   have key:∀ d i,i=d→i < n→listed.getD i false=false→False:=by
    intro d
    induction d using Nat.strongRecOn with
    | _ d ihd=>
     intro i hid hi hl
     obtain⟨oi,ho,hdep,_⟩:=hw.op i hi
     have:i∈Region.ready md ops listed:=mem_ready.2 ⟨(hunl i (by have:=hw.le;omega)).2 hl,oi,ho,fun e he hb=>by
      have hlt:=hdep e he hb
      cases hx:listed.getD e.on false with
      | true=>rfl
      | false=>exact(ihd e.on (by omega) e.on rfl (by omega) hx).elim⟩
     rw[h0]at this;cases this
   exact key i i rfl hi hl
  refine⟨fun h0=>absurd h0 hne,fun j hj=>?_⟩
  obtain⟨hjun,oj,hoj,hdeps⟩:=mem_ready.1 hj
  have hjs:j < ops.size:=(Array.getElem?_eq_some_iff.1 hoj).1
  have hjl:=(hunl j hjs).1 hjun
  have hjn:j < n:=by
   rcases Nat.lt_or_ge j n with h | h
   ·exact h
   ·obtain⟨i,hi,hl⟩:=hex
    have:=reaches_listed hcl 12 j i oj hoj hdeps (hw.tail j h hjs i hi)
    rw[hl]at this;cases this
  obtain⟨oj2,ho2,_,hgu⟩:=hw.op j hjn
  rw[hoj]at ho2;injection ho2 with ho2;subst ho2
  have hread:execOp (frL ops a0 g (fun j=>listed.getD j false) n).eval oj=execOp (pre ops a0 g j).eval oj:=by
   rw[← frL_pre (ops:=ops) (a0:=a0) g j n (by omega)]
   refine execOp_congr oj (fun cs b=>Region.noSelect_spec hw.sel j oj cs b hoj) (fun x hx=>?_)
   cases x with
   | tmp t=>
    refine frL_agree g _ _ t n (fun k hk hdk=>?_)
    by_cases hkj:k=j
    ·subst hkj;simp[hjl]
    ·have:=hw.read j k oj hjn hk hkj hoj t hdk hx
     by_cases hlt:k < j
     ·rw[if_pos hlt]at this
      obtain⟨o',ho',e,he,hb,hon⟩:=waits_spec this
      rw[hoj]at ho';injection ho' with ho';subst ho'
      have h2:=hdeps e he hb
      rw[hon]at h2
      simp only[h2,decide_eq_true hlt]
     ·rw[if_neg hlt]at this
      obtain⟨o',ho',e,he,hb,hon⟩:=waits_spec this
      have hnl:listed.getD k false=false:=by
       cases hx:listed.getD k false with
       | false=>rfl
       | true=>
        have:=hcl k o' hx ho' e he hb
        rw[hon,hjl]at this;cases this
      simp only[hnl,decide_eq_false hlt]
   | _=>rfl
  have hdst:oj.dst=dstAt ops j:=by simp[dstAt,hoj]
  have hst:=step j oj hjn hoj g w _ hjl (fun k hwk=>by
   obtain⟨o',ho',e,he,hb,hon⟩:=waits_spec hwk
   rw[hoj]at ho';injection ho' with ho';subst ho'
   have h2:=hdeps e he hb
   rw[hon]at h2
   exact h2) (fun k k' hk hwk=>by
   obtain⟨o',ho',e,he,hb,hon⟩:=waits_spec hwk
   have h2:=hcl k o' hk ho' e he hb
   rw[hon]at h2
   exact h2) hSw (fun k hk hwk=>by
   obtain⟨o',ho',e,he,hb,hon⟩:=waits_spec hwk
   rw[hoj]at ho';injection ho' with ho';subst ho'
   have h2:=hdeps e he hb
   rw[hon]at h2
   exact hph k (by omega) h2)
  have hwant:Region.wanted oj (yielded ops (frL ops a0 g (fun j=>listed.getD j false) n).tmps)=true:=by
   unfold Region.wanted
   cases hg:oj.guard with
   | none=>rfl
   | some kb=>
    obtain⟨k,b⟩:=kb
    obtain⟨hwk,hkj,d,hd,hdsz⟩:=hgu k b hg
    obtain⟨o',ho',e,he,hb,hon⟩:=waits_spec hwk
    rw[hoj]at ho';injection ho' with ho';subst ho'
    have h2:=hdeps e he hb
    rw[hon]at h2
    have hv:=hgd j oj k b hjn hoj hg _ _ (hph k (by omega) h2)
    have hr:=frL_read (a0:=a0) g (fun j=>listed.getD j false) (k:=k) (d:=d) h2 hd n (by omega) (fun j' hj' hne'=>hw.dst k j' (by omega) hj' hne' d hd) (by rw[hsz];exact hdsz)
    rw[hv]at hr
    simp only[yielded_of hd hr]
    simp
  refine OpGives.wpOpG hoj hwant ?_
  unfold OpGives at hst ⊢
  rw[hread]
  refine OpGives.mono (o:=oj) (ρ:=(pre ops a0 g j).eval) hst (fun v w' ⟨hR,hphv,hSn⟩=>?_)
  have hL:∀ k,(listed.setIfInBounds j true).getD k false=if k=j then true else listed.getD k false:=fun k=>by
   by_cases hk:k=j
   ·subst hk;simp[hszl,hjs]
   ·simp only[hk,if_false];exact getD_set_ne false (fun x=>hk x.symm)
  have hfr:(frL ops a0 g (fun j=>listed.getD j false) n).put oj.dst v=frL ops a0 (upd g j v) (fun k=>(listed.setIfInBounds j true).getD k false) n:=by
   rw[hdst]
   refine(frL_upd n g _ _ j v hjl (by simp[hL]) (fun k hk=>by simp[hL,hk]) (fun k hk hkj d hd=>hw.dst j k hjn hk hkj d hd) n (Nat.le_refl _) hjn).symm
  rw[hfr]
  refine ih (listed.setIfInBounds j true) (upd g j v) w' ?_ (by simp[hszl]) ?_ ?_ (by rw[show(fun k=>(listed.setIfInBounds j true).getD k false)=(fun k=>if k=j then true else listed.getD k false)from funext hL];exact hSn) ?_
  ·have:=count_step (fun k=>!listed.getD k false) (fun k=>!(listed.setIfInBounds j true).getD k false) j (by simp[hjl]) (by simp[hL]) (fun k hk=>by simp[hL,hk]) n hjn
   omega
  ·intro k ok hk hok e he hb
   rw[hL]at hk ⊢
   by_cases hkj:k=j
   ·subst hkj
    rw[hoj]at hok;injection hok with hok;subst hok
    split
    ·rfl
    ·exact hdeps e he hb
   ·rw[if_neg hkj]at hk
    split
    ·rfl
    ·exact hcl k ok hk hok e he hb
  ·intro k hk
   rw[hL,if_neg (by omega)];exact htl k hk
  ·intro k hk hl
   by_cases hkj:k=j
   ·subst hkj;rw[upd_same];exact hphv
   ·rw[upd_other g v hkj]
    rw[hL,if_neg hkj]at hl
    exact hφ _ _ _ _ _ hkj (hph k hk hl) hR
end
section
variable{S:(Nat→Bool)→(Nat→Value)→World→Prop}{R:Nat→World→World→Prop}{all:List (Value→World→Prop)}
def StepsG(P:Program)(ops:Array Oper)(a0:Act)(S:(Nat→Bool)→(Nat→Value)→World→Prop)(R:Nat→World→World→Prop)(all:List (Value→World→Prop)):Nat→List Oper→List (Value→World→Prop)→Prop
 | _,[],[]=>True
 | i,o :: os,f :: fs=>(∀ (g:Nat→Value) (w:World) (L:Nat→Bool),L i=false→(∀ j,waits .any ops i j=true→L j=true)→(∀ k j,L k=true→waits .any ops k j=true→L j=true)→S L g w→(∀ j,j < i→waits .any ops i j=true→factM all j (g j) w)→
   OpGives P o (pre ops a0 g i).eval w (fun v w'=>R i w w'∧f v w'∧S (fun k=>if k=i then true else L k) (upd g i v) w'))∧StepsG P ops a0 S R all (i+1) os fs
 | _,_,_=>False
theorem stepsG_nil{i:Nat} : StepsG P ops a0 S R all i [] []:=trivial
theorem stepsG_cons{i:Nat}{o:Oper}{os:List Oper}{f:Value→World→Prop}{fs:List (Value→World→Prop)}
  (h:∀ (g:Nat→Value) (w:World) (L:Nat→Bool),L i=false→(∀ j,waits .any ops i j=true→L j=true)→(∀ k j,L k=true→waits .any ops k j=true→L j=true)→S L g w→(∀ j,j < i→waits .any ops i j=true→factM all j (g j) w)→OpGives P o (pre ops a0 g i).eval w (fun v w'=>R i w w'∧f v w'∧S (fun k=>if k=i then true else L k) (upd g i v) w'))
  (rest:StepsG P ops a0 S R all (i+1) os fs):StepsG P ops a0 S R all i (o :: os) (f :: fs):=⟨h,rest⟩
theorem stepsG_get:∀ (os:List Oper) (fs:List (Value→World→Prop)) (k:Nat),StepsG P ops a0 S R all k os fs→
  ∀ i o,os[i]? = some o→∃ f,fs[i]? = some f∧(∀ (g:Nat→Value) (w:World) (L:Nat→Bool),L (k+i)=false→(∀ j,waits .any ops (k+i) j=true→L j=true)→(∀ x j,L x=true→waits .any ops x j=true→L j=true)→S L g w→(∀ j,j < k+i→waits .any ops (k+i) j=true→factM all j (g j) w)→
   OpGives P o (pre ops a0 g (k+i)).eval w (fun v w'=>R (k+i) w w'∧f v w'∧S (fun x=>if x=k+i then true else L x) (upd g (k+i) v) w'))
 | [],_,_,_,i,o,h=>by simp at h
 | o :: os,[],_,hs,_,_,_=>by simp[StepsG]at hs
 | o :: os,f :: fs,k,hs,i,o',h=>by
  cases i with
  | zero=>
   simp at h;subst h
   exact⟨f,rfl,hs.1⟩
  | succ i=>
   obtain⟨f',hf,hx⟩:=stepsG_get os fs (k+1) hs.2 i o' (by simpa using h)
   refine⟨f',by simpa using hf,?_⟩
   have e:k+1+i=k+(i+1):=by omega
   rw[e]at hx
   exact hx
theorem wp_region_factsG {id : Nat} {w : World} {S : (Nat → Bool) → (Nat → Value) → World → Prop} (R : Nat → World → World → Prop) (fs : List (Value → World → Prop)) (hm : P.follows .mixedOrders = true) {sz : Nat} (hw : wiredG .any ops fs.length sz = true) (hsz : a0.tmps.size = sz)
    (hgd : GuardsM ops fs)
    (hst : ∀ i j v w w', i ≠ j → factM fs i v w → R j w w' → factM fs i v w') (h0 : S (fun _ => false) (fun _ => undef) w.drew) (steps : StepsG P ops a0 S R fs 0 (ops.toList.take fs.length) fs)
    (fin : ∀ g w L, (∀ i, i < fs.length → L i = true) → S L g w → (∀ i, i < fs.length → factM fs i (g i) w) → wpAny P .any ops Q (ops.size - fs.length) (doneN ops fs.length) (pre ops a0 g fs.length) w) :
    (Code.region id ops true).wp P Q a0 w := by
  refine wp_region_any hm ?_
  have hW := wiredG_spec hw
  have hf : ∀ j, (Array.replicate ops.size false).getD j false = false := fun j => by
    rcases Nat.lt_or_ge j ops.size with h | h <;> simp [h]
  have h := region_core6 (Q := Q) (a0 := a0) (fun L g w => S L g w) R (factM fs) hW hsz (fun i oi j b hi ho hg v w hf => guardsM_spec hgd i oi j b hi ho hg v w hf)
    hst
    (fun i oi hi ho g w L hLi hwt hcl hSw hd => by
      obtain ⟨f, hf, hx⟩ := stepsG_get _ _ 0 steps i oi (by rw [List.getElem?_take, if_pos hi]; simpa using ho)
      have := hx g w L (by rw [Nat.zero_add]; exact hLi) (fun j hw => hwt j (by simpa using hw)) hcl hSw (fun j hj hw => hd j (by omega) (by simpa using hw))
      simp only [Nat.zero_add] at this
      exact this.mono fun v w' ⟨hr, hp, hs⟩ => ⟨hr, by unfold factM; rw [hf]; exact hp, hs⟩)
    (fun g w L hL hSw hp => fin g w L hL hSw hp) fs.length (Array.replicate ops.size false) (fun _ => undef) w.drew
    (by rw [List.countP_eq_length.2]; · simp
        · intro j _; simp only [hf]; rfl) (by simp) (fun j oj hj => by rw [hf] at hj; cases hj) (fun j _ => hf j) (by rw [show (fun k => (Array.replicate ops.size false).getD k false) = fun _ => false from funext hf]; exact h0) (fun j _ hj => by rw [hf] at hj; cases hj)
  have e1 : fs.length + (ops.size - fs.length) = ops.size := by have := hW.le; omega
  rw [e1] at h
  have e2 : ∀ m, frL ops a0 (fun _ => undef) (fun j => (Array.replicate ops.size false).getD j false) m = a0 := by
    intro m
    induction m with
    | zero => rfl
    | succ m ihm => unfold frL; rw [hf, ihm]; simp
  rw [e2] at h
  exact h
end
end
end Go.Proofs.YtlmabbigfdbmbaaGreatDoor.Ord
namespace Go.Proofs.YtlmabbigfdbmbaaGreatDoor.Ord
section
variable{P:Program}{ops:Array Oper}{a0:Act}{l n:Nat}
theorem OpGives.skip{o:Oper}{ρ:Operand→Value}{w w':World}{K:Value→World→Prop}(hr:(execOp ρ o).run P w = .ok .skip w')(hk:K undef w'):OpGives P o ρ w K:=by unfold OpGives;rw[hr];exact hk
def noDefer(ops:Array Oper):Bool:=ops.toList.all fun o=>match o.op with | .defer _=>false | _=>true
theorem noDefer_at{i:Nat}{o:Oper}(h:noDefer ops=true)(ho:ops[i]? = some o):∀ c,o.op≠.defer c:=fun c e=>by
 have hm:o∈ops.toList:=Array.mem_toList_iff.2 (Array.mem_of_getElem? ho)
 have:=List.all_eq_true.1 h o hm
 rw[e]at this
 cases this
theorem op_round{o:Oper}(hd:∀ c,o.op≠.defer c){Q Q':Exit→Act→World→Prop}(hq:∀ c a w,Q (.panic c) a w→Q' (.panic c) a w)(hno:¬ LetsOut Q){a:Act}{w:World}{K K':Act→World→Prop}(hK:∀ a w,K a w→K' a w)
  (h:o.wp P a w K Q):o.wpIn (Fence.wide.inRound l) n P a w K' Q':=by
 unfold Oper.wp at h
 unfold Oper.wpIn
 refine⟨fun _ _=>trivial,?_⟩
 rw[Oper.semAt_plain _ _ _ hd]
 generalize (execOp a.eval o).run P w=r at *
 cases r with
 | ok x w'=>
  cases x with
  | value v=>exact hK _ _ h
  | skip=>exact hK _ _ h
  | defer d=>exact hK _ _ h
  | enter f args=>
   refine⟨(fun hx=>by cases hx),CallsIn.inRound l (callsIn_wide.2 ?_)⟩
   refine Calls.mono h fun e w'' he=>?_
   cases e with
   | returned v=>exact hK _ _ he
   | panicked c=>exact hq _ _ _ he
   | outgrown=>exact absurd he hno
  | row row args=>
   refine⟨(fun hx=>by cases hx),?_⟩
   intro c cs _
   obtain⟨v,w'',r,s⟩:=h c cs
   exact⟨v,w'',hK _ _ r,stepsIn_wide.2 s⟩
  | _=>exact h.elim
 | halt x w'=>cases x<;>first | exact hq _ _ _ h | exact h.elim
theorem any_round(hd:noDefer ops=true){Q Q':Exit→Act→World→Prop}(hn:∀ a w,Q .normal a w→Q' .normal a w)(hq:∀ c a w,Q (.panic c) a w→Q' (.panic c) a w)(hno:¬ LetsOut Q){md:Region.Mode} :
  ∀ (fuel:Nat) (listed:Array Bool) (a:Act) (w:World),wpAny P md ops Q fuel listed a w→wpAnyIn (Fence.wide.inRound l) n P md ops Q' fuel listed a w
 | 0,listed,a,w,h=>⟨h.1,hn _ _ h.2⟩
 | fuel+1,listed,a,w,h=>by
  refine⟨fun e=>hn _ _ (h.1 e),fun i hi=>?_⟩
  have h2:=h.2 i hi
  unfold wpOp at h2
  unfold wpOpIn
  cases ho:ops[i]? with
  | none=>rw[ho]at h2;exact any_round hd hn hq hno fuel _ _ _ h2
  | some o=>
   simp only[ho]at h2 ⊢
   split at h2
   ·rename_i hw
    rw[if_pos hw]
    rcases h2 with h2 | h2
    ·exact op_round (noDefer_at hd ho) hq hno (any_round hd hn hq hno fuel _) h2
    ·exact absurd h2.2 hno
   ·rename_i hw
    rw[if_neg hw]
    exact⟨fun _ _=>trivial,any_round hd hn hq hno fuel _ _ _ h2⟩
theorem wp_region_factsN {id : Nat} {w : World} {Q : Exit → Act → World → Prop} {S : (Nat → Bool) → World → Prop} (R : Nat → World → World → Prop) (fs : List (Value → World → Prop)) (hm : (noDefer ops && P.follows .mixedOrders) = true) (hw : wiredT .any ops fs.length = true)
    (hst : ∀ i j v w w', i ≠ j → factM fs i v w → R j w w' → factM fs i v w') (h0 : S (fun _ => false) w.drew) (steps : StepsM P ops a0 S R fs 0 (ops.toList.take fs.length) fs)
    (fin : ∀ g w L, (∀ i, i < fs.length → L i = true) → S L w → (∀ i, i < fs.length → factM fs i (g i) w) → wpAny P .any ops (fun e a w => e = .normal ∧ Q .normal a w) (ops.size - fs.length) (doneN ops fs.length) (pre ops a0 g fs.length) w) :
    (Code.region id ops true).wpIn (Fence.wide.inRound l) n P Q a0 w := by
  rw [Bool.and_eq_true] at hm
  refine wpIn_region_any hm.2 (any_round (Q := fun e a w => e = .normal ∧ Q .normal a w) hm.1 (fun a w h => h.2) (fun c a w h => by cases h.1) (fun ⟨a, w, h⟩ => by cases h.1) _ _ _ _ ?_)
  have hW := wiredT_spec hw
  have hf : ∀ j, (Array.replicate ops.size false).getD j false = false := fun j => by
    rcases Nat.lt_or_ge j ops.size with h | h <;> simp [h]
  have h := region_core3 (Q := fun e a w => e = .normal ∧ Q .normal a w) (a0 := a0) (fun L w => S L w) R (factM fs) hW
    hst
    (fun i oi hi ho g w L hLi hSw hd => by
      obtain ⟨f, hf, hx⟩ := stepsM_get _ _ 0 steps i oi (by rw [List.getElem?_take, if_pos hi]; simpa using ho)
      have := hx g w L (by rw [Nat.zero_add]; exact hLi) hSw (fun j hj hw => hd j (by omega) (by simpa using hw))
      simp only [Nat.zero_add] at this
      exact this.mono fun v w' ⟨hr, hp, hs⟩ => ⟨hr, by unfold factM; rw [hf]; exact hp, hs⟩)
    (fun g w L hL hSw hp => fin g w L hL hSw hp) fs.length (Array.replicate ops.size false) (fun _ => undef) w.drew
    (by rw [List.countP_eq_length.2]; · simp
        · intro j _; simp only [hf]; rfl) (by simp) (fun j oj hj => by rw [hf] at hj; cases hj) (fun j _ => hf j) (by rw [show (fun k => (Array.replicate ops.size false).getD k false) = fun _ => false from funext hf]; exact h0) (fun j _ hj => by rw [hf] at hj; cases hj)
  have e1 : fs.length + (ops.size - fs.length) = ops.size := by have := hW.le; omega
  rw [e1] at h
  have e2 : ∀ m, frL ops a0 (fun _ => undef) (fun j => (Array.replicate ops.size false).getD j false) m = a0 := by
    intro m
    induction m with
    | zero => rfl
    | succ m ihm => unfold frL; rw [hf, ihm]; simp
  rw [e2] at h
  exact h
end
end Go.Proofs.YtlmabbigfdbmbaaGreatDoor.Ord
namespace Go.Proofs.YtlmabbigfdbmbaaGreatDoor.Ord
section
variable{P:Program}{ops:Array Oper}{Q:Exit→Act→World→Prop}{md:Region.Mode}{a0:Act}
def OpBad(P:Program)(o:Oper)(ρ:Operand→Value)(w:World)(B:List PanicEntry→World→Prop):Prop:=
 match (execOp ρ o).run P w with
 | .ok (.enter f args) w'=>Calls P f args w' fun e w''=>∃ ch,e = .panicked ch∧B ch w''
 | _=>False
theorem OpBad.mono{o:Oper}{ρ:Operand→Value}{w:World}{B B':List PanicEntry→World→Prop}(h:OpBad P o ρ w B)(hk:∀ v w,B v w→B' v w):OpBad P o ρ w B':=by
 unfold OpBad at *
 split at h
 ·exact h.mono fun e w'' ⟨ch,he,hb⟩=>⟨ch,he,hk _ _ hb⟩
 ·exact h.elim
theorem OpBad.wpOp{i:Nat}{o:Oper}{K:Act→World→Prop}{a:Act}{w:World}(hi:ops[i]? = some o)(hg:o.guard=none)
  (h:OpBad P o a.eval w fun ch w'=>Q (.panic ch) a w'):Go.wpOp P ops Q i K a w:=by
 unfold Go.wpOp;rw[hi];simp only[Region.wanted,hg,if_true]
 refine .inl ?_
 unfold Oper.wp
 unfold OpBad at h
 split at h
 ·rename_i heq
  rw[heq]
  exact h.mono fun e w'' ⟨ch,he,hb⟩=>by subst he;exact hb
 ·exact h.elim
theorem OpBad.call{o:Oper}{ρ:Operand→Value}{w w':World}{f:FuncId}{args:Array Value}{B:List PanicEntry→World→Prop}(hr:(execOp ρ o).run P w = .ok (.enter f args) w')
  (hk:Calls P f args w' fun e w''=>∃ ch,e = .panicked ch∧B ch w''):OpBad P o ρ w B:=by
 unfold OpBad;rw[hr];exact hk
theorem OpBad.pre_reads{o:Oper}{g:Nat→Value}{i:Nat}{w:World}{B:List PanicEntry→World→Prop}(l:List (Tmp × Nat))(sz:Nat)(hsz:a0.tmps.size=sz)(hok:okReads ops i o l sz=true)
  (hg:OpBad P o (rdl a0 (l.map fun x=>(x.1,g x.2))) w B):OpBad P o (pre ops a0 g i).eval w B:=by
 unfold okReads at hok
 rw[Bool.and_eq_true]at hok
 obtain⟨h1,h2⟩:=hok
 have hs:∀ cs b,o.op≠.select cs b:=fun cs b h=>by rw[h]at h1;cases h1
 have hm:o.op.operands.toList.map (pre ops a0 g i).eval=o.op.operands.toList.map (rdl a0 (l.map fun x=>(x.1,g x.2))):=by
  refine List.map_congr_left (fun x hx=>?_)
  have h3:=List.all_eq_true.1 h2 x hx
  cases x with
  | tmp t=>
   simp only[Bool.and_eq_true,decide_eq_true_eq]at h3
   rw[pre_eval g t (by rw[hsz];exact h3.1)]
   simp only[rdl,lookup_map]
   cases hl:lastW ops t i with
   | none=>rw[hl]at h3;simp only[Option.isNone_iff_eq_none]at h3;rw[h3.2];rfl
   | some j=>rw[hl]at h3;simp only[beq_iff_eq]at h3;rw[h3.2];rfl
  | const v=>induction i with | zero=>rfl | succ i ih=>rfl
  | global v=>induction i with | zero=>rfl | succ i ih=>rfl
  | func v=>induction i with | zero=>rfl | succ i ih=>rfl
 unfold OpBad at *
 rw[execOp_congr o hs (ρ:=(pre ops a0 g i).eval) (ρ':=rdl a0 (l.map fun x=>(x.1,g x.2))) (fun x hx=>List.map_inj_left.1 hm x (by simpa using hx))]
 exact hg
theorem frL_defers(g:Nat→Value)(L:Nat→Bool):∀ m,(frL ops a0 g L m).defers=a0.defers
 | 0=>rfl
 | m+1=>by
  unfold frL
  split
  ·simp only[Act.put];split<;>exact frL_defers g L m
  ·exact frL_defers g L m
section
variable{n:Nat}(S:(Nat→Bool)→World→Prop)(R:Nat→World→World→Prop)(φ:Nat→Value→World→Prop)
theorem region_core4(hw:WiredT md ops n)(hφ:∀ i j v w w',i≠j→φ i v w→R j w w'→φ i v w')
  (step:∀ i oi,i < n→ops[i]? = some oi→∀ g w L,L i=false→S L w→(∀ j,j < i→waits md ops i j=true→φ j (g j) w)→
   OpGives P oi (pre ops a0 g i).eval w (fun v w'=>R i w w'∧φ i v w'∧S (fun k=>if k=i then true else L k) w')∨OpBad P oi (pre ops a0 g i).eval w (fun ch w'=>∀ a,a.defers=a0.defers→Q (.panic ch) a w'))
  (fin:∀ g w L,(∀ i,i < n→L i=true)→S L w→(∀ i,i < n→φ i (g i) w)→wpAny P md ops Q (ops.size - n) (doneN ops n) (pre ops a0 g n) w) :
  ∀ (m:Nat) (listed:Array Bool) (g:Nat→Value) (w:World),(List.range n).countP (fun j=>!listed.getD j false)=m→listed.size=ops.size→
   (∀ j oj,listed.getD j false=true→ops[j]? = some oj→∀ e∈oj.after,Region.binds md e=true→listed.getD e.on false=true)→
   (∀ j,n≤j→listed.getD j false=false)→S (fun k=>listed.getD k false) w→(∀ j,j < n→listed.getD j false=true→φ j (g j) w)→
   wpAny P md ops Q (m+(ops.size - n)) listed (frL ops a0 g (fun j=>listed.getD j false) n) w:=by
 intro m
 induction m with
 | zero=>
  intro listed g w hc hsz hcl htl hSw hph
  have hall:∀ j,j < n→listed.getD j false=true:=fun j hj=>by
   have:=count_zero _ n hc j hj;simpa using this
  have hl:listed=doneN ops n:=by
   apply Array.ext
   ·simp[doneN,hsz]
   ·intro j h1 h2
    have e:listed[j]=listed.getD j false:=by simp[h1]
    rw[e]
    simp only[doneN,List.getElem_toArray,List.getElem_map,List.getElem_range]
    by_cases hj:j < n
    ·simp[hall j hj,hj]
    ·rw[htl j (by omega)];simp[hj]
  rw[frL_all g _ n hall,Nat.zero_add]
  subst hl
  exact fin g w _ (fun i hi=>hall i hi) hSw (fun i hi=>hph i hi (hall i hi))
 | succ m ih=>
  intro listed g w hc hsz hcl htl hSw hph
  rw[show m+1+(ops.size - n)=(m+(ops.size - n))+1 by omega]
  have hex:∃ i,i < n∧listed.getD i false=false:=by
   apply Classical.byContradiction
   intro hno
   have:(List.range n).countP (fun j=>!listed.getD j false)=0:=by
    rw[List.countP_eq_zero]
    intro j hj
    have hj':=List.mem_range.1 hj
    cases hl:listed.getD j false with
    | true=>simp
    | false=>exact absurd ⟨j,hj',hl⟩ hno
   omega
  have hunl:∀ j,j < ops.size→(listed.getD j true=false↔listed.getD j false=false):=fun j hj=>by simp[hsz,hj]
  have hne:Region.ready md ops listed≠[]:=by
   intro h0
   obtain⟨i,hi,hl⟩:=hex
   have key:∀ d i,i=d→i < n→listed.getD i false=false→False:=by
    intro d
    induction d using Nat.strongRecOn with
    | _ d ihd=>
     intro i hid hi hl
     obtain⟨oi,ho,_,hdep⟩:=hw.op i hi
     have:i∈Region.ready md ops listed:=mem_ready.2 ⟨(hunl i (by have:=hw.le;omega)).2 hl,oi,ho,fun e he hb=>by
      have hlt:=hdep e he hb
      cases hx:listed.getD e.on false with
      | true=>rfl
      | false=>exact(ihd e.on (by omega) e.on rfl (by omega) hx).elim⟩
     rw[h0]at this;cases this
   exact key i i rfl hi hl
  refine⟨fun h0=>absurd h0 hne,fun j hj=>?_⟩
  obtain⟨hjun,oj,hoj,hdeps⟩:=mem_ready.1 hj
  have hjs:j < ops.size:=(Array.getElem?_eq_some_iff.1 hoj).1
  have hjl:=(hunl j hjs).1 hjun
  have hjn:j < n:=by
   rcases Nat.lt_or_ge j n with h | h
   ·exact h
   ·obtain⟨i,hi,hl⟩:=hex
    have:=reaches_listed hcl 12 j i oj hoj hdeps (hw.tail j h hjs i hi)
    rw[hl]at this;cases this
  obtain⟨oj2,ho2,hguard,_⟩:=hw.op j hjn
  rw[hoj]at ho2;injection ho2 with ho2;subst ho2
  have hread:execOp (frL ops a0 g (fun j=>listed.getD j false) n).eval oj=execOp (pre ops a0 g j).eval oj:=by
   rw[← frL_pre (ops:=ops) (a0:=a0) g j n (by omega)]
   refine execOp_congr oj (fun cs b=>Region.noSelect_spec hw.sel j oj cs b hoj) (fun x hx=>?_)
   cases x with
   | tmp t=>
    refine frL_agree g _ _ t n (fun k hk hdk=>?_)
    by_cases hkj:k=j
    ·subst hkj;simp[hjl]
    ·have:=hw.read j k oj hjn hk hkj hoj t hdk hx
     by_cases hlt:k < j
     ·rw[if_pos hlt]at this
      obtain⟨o',ho',e,he,hb,hon⟩:=waits_spec this
      rw[hoj]at ho';injection ho' with ho';subst ho'
      have h2:=hdeps e he hb
      rw[hon]at h2
      simp only[h2,decide_eq_true hlt]
     ·rw[if_neg hlt]at this
      obtain⟨o',ho',e,he,hb,hon⟩:=waits_spec this
      have hnl:listed.getD k false=false:=by
       cases hx:listed.getD k false with
       | false=>rfl
       | true=>
        have:=hcl k o' hx ho' e he hb
        rw[hon,hjl]at this;cases this
      simp only[hnl,decide_eq_false hlt]
   | _=>rfl
  have hdst:oj.dst=dstAt ops j:=by simp[dstAt,hoj]
  have hst:=step j oj hjn hoj g w _ hjl hSw (fun k hk hwk=>by
   obtain⟨o',ho',e,he,hb,hon⟩:=waits_spec hwk
   rw[hoj]at ho';injection ho' with ho';subst ho'
   have h2:=hdeps e he hb
   rw[hon]at h2
   exact hph k (by omega) h2)
  rcases hst with hst | hst
  case inr=>
   refine OpBad.wpOp hoj hguard ?_
   unfold OpBad at hst ⊢
   rw[hread]
   refine OpBad.mono (o:=oj) (ρ:=(pre ops a0 g j).eval) hst (fun ch w' hb=>hb _ (frL_defers _ _ _))
  refine OpGives.wpOp hoj hguard ?_
  unfold OpGives at hst ⊢
  rw[hread]
  refine OpGives.mono (o:=oj) (ρ:=(pre ops a0 g j).eval) hst (fun v w' ⟨hR,hphv,hSn⟩=>?_)
  have hL:∀ k,(listed.setIfInBounds j true).getD k false=if k=j then true else listed.getD k false:=fun k=>by
   by_cases hk:k=j
   ·subst hk;simp[hsz,hjs]
   ·simp only[hk,if_false];exact getD_set_ne false (fun x=>hk x.symm)
  have hfr:(frL ops a0 g (fun j=>listed.getD j false) n).put oj.dst v=frL ops a0 (upd g j v) (fun k=>(listed.setIfInBounds j true).getD k false) n:=by
   rw[hdst]
   refine(frL_upd n g _ _ j v hjl (by simp[hL]) (fun k hk=>by simp[hL,hk]) (fun k hk hkj d hd=>hw.dst j k hjn hk hkj d hd) n (Nat.le_refl _) hjn).symm
  rw[hfr]
  refine ih (listed.setIfInBounds j true) (upd g j v) w' ?_ (by simp[hsz]) ?_ ?_ (by rw[show(fun k=>(listed.setIfInBounds j true).getD k false)=(fun k=>if k=j then true else listed.getD k false)from funext hL];exact hSn) ?_
  ·have:=count_step (fun k=>!listed.getD k false) (fun k=>!(listed.setIfInBounds j true).getD k false) j (by simp[hjl]) (by simp[hL]) (fun k hk=>by simp[hL,hk]) n hjn
   omega
  ·intro k ok hk hok e he hb
   rw[hL]at hk ⊢
   by_cases hkj:k=j
   ·subst hkj
    rw[hoj]at hok;injection hok with hok;subst hok
    split
    ·rfl
    ·exact hdeps e he hb
   ·rw[if_neg hkj]at hk
    split
    ·rfl
    ·exact hcl k ok hk hok e he hb
  ·intro k hk
   rw[hL,if_neg (by omega)];exact htl k hk
  ·intro k hk hl
   by_cases hkj:k=j
   ·subst hkj;rw[upd_same];exact hphv
   ·rw[upd_other g v hkj]
    rw[hL,if_neg hkj]at hl
    exact hφ _ _ _ _ _ hkj (hph k hk hl) hR
end
def StepsP(P:Program)(ops:Array Oper)(Q:Exit→Act→World→Prop)(a0:Act)(S:(Nat→Bool)→World→Prop)(R:Nat→World→World→Prop)(all:List (Value→World→Prop)):Nat→List Oper→List (Value→World→Prop)→Prop
 | _,[],[]=>True
 | i,o :: os,f :: fs=>(∀ (g:Nat→Value) (w:World) (L:Nat→Bool),L i=false→S L w→(∀ j,j < i→waits .any ops i j=true→factM all j (g j) w)→
   OpGives P o (pre ops a0 g i).eval w (fun v w'=>R i w w'∧f v w'∧S (fun k=>if k=i then true else L k) w')∨OpBad P o (pre ops a0 g i).eval w (fun ch w'=>∀ a,a.defers=a0.defers→Q (.panic ch) a w'))∧StepsP P ops Q a0 S R all (i+1) os fs
 | _,_,_=>False
variable{S:(Nat→Bool)→World→Prop}{R:Nat→World→World→Prop}{all:List (Value→World→Prop)}
theorem stepsP_nil{i:Nat} : StepsP P ops Q a0 S R all i [] []:=trivial
theorem stepsP_cons{i:Nat}{o:Oper}{os:List Oper}{f:Value→World→Prop}{fs:List (Value→World→Prop)}
  (h:∀ (g:Nat→Value) (w:World) (L:Nat→Bool),L i=false→S L w→(∀ j,j < i→waits .any ops i j=true→factM all j (g j) w)→OpGives P o (pre ops a0 g i).eval w (fun v w'=>R i w w'∧f v w'∧S (fun k=>if k=i then true else L k) w'))
  (rest:StepsP P ops Q a0 S R all (i+1) os fs):StepsP P ops Q a0 S R all i (o :: os) (f :: fs):=⟨fun g w L a b d=> .inl (h g w L a b d),rest⟩
theorem stepsP_bad{i:Nat}{o:Oper}{os:List Oper}{f:Value→World→Prop}{fs:List (Value→World→Prop)}
  (h:∀ (g:Nat→Value) (w:World) (L:Nat→Bool),L i=false→S L w→(∀ j,j < i→waits .any ops i j=true→factM all j (g j) w)→OpBad P o (pre ops a0 g i).eval w (fun ch w'=>∀ a,a.defers=a0.defers→Q (.panic ch) a w'))
  (rest:StepsP P ops Q a0 S R all (i+1) os fs):StepsP P ops Q a0 S R all i (o :: os) (f :: fs):=⟨fun g w L a b d=> .inr (h g w L a b d),rest⟩
theorem stepsP_get:∀ (os:List Oper) (fs:List (Value→World→Prop)) (k:Nat),StepsP P ops Q a0 S R all k os fs→
  ∀ i o,os[i]? = some o→∃ f,fs[i]? = some f∧(∀ (g:Nat→Value) (w:World) (L:Nat→Bool),L (k+i)=false→S L w→(∀ j,j < k+i→waits .any ops (k+i) j=true→factM all j (g j) w)→
   OpGives P o (pre ops a0 g (k+i)).eval w (fun v w'=>R (k+i) w w'∧f v w'∧S (fun x=>if x=k+i then true else L x) w')∨OpBad P o (pre ops a0 g (k+i)).eval w (fun ch w'=>∀ a,a.defers=a0.defers→Q (.panic ch) a w'))
 | [],_,_,_,i,o,h=>by simp at h
 | o :: os,[],_,hs,_,_,_=>by simp[StepsP]at hs
 | o :: os,f :: fs,k,hs,i,o',h=>by
  cases i with
  | zero=>
   simp at h;subst h
   exact⟨f,rfl,hs.1⟩
  | succ i=>
   obtain⟨f',hf,hx⟩:=stepsP_get os fs (k+1) hs.2 i o' (by simpa using h)
   refine⟨f',by simpa using hf,?_⟩
   have e:k+1+i=k+(i+1):=by omega
   rw[e]at hx
   exact hx
theorem wp_region_factsP {id : Nat} {w : World} {S : (Nat → Bool) → World → Prop} (R : Nat → World → World → Prop) (fs : List (Value → World → Prop)) (hm : P.follows .mixedOrders = true) (hw : wiredT .any ops fs.length = true)
    (hst : ∀ i j v w w', i ≠ j → factM fs i v w → R j w w' → factM fs i v w') (h0 : S (fun _ => false) w.drew) (steps : StepsP P ops Q a0 S R fs 0 (ops.toList.take fs.length) fs)
    (fin : ∀ g w L, (∀ i, i < fs.length → L i = true) → S L w → (∀ i, i < fs.length → factM fs i (g i) w) → wpAny P .any ops Q (ops.size - fs.length) (doneN ops fs.length) (pre ops a0 g fs.length) w) :
    (Code.region id ops true).wp P Q a0 w := by
  refine wp_region_any hm ?_
  have hW := wiredT_spec hw
  have hf : ∀ j, (Array.replicate ops.size false).getD j false = false := fun j => by
    rcases Nat.lt_or_ge j ops.size with h | h <;> simp [h]
  have h := region_core4 (Q := Q) (a0 := a0) (fun L w => S L w) R (factM fs) hW
    hst
    (fun i oi hi ho g w L hLi hSw hd => by
      obtain ⟨f, hf, hx⟩ := stepsP_get _ _ 0 steps i oi (by rw [List.getElem?_take, if_pos hi]; simpa using ho)
      have := hx g w L (by rw [Nat.zero_add]; exact hLi) hSw (fun j hj hw => hd j (by omega) (by simpa using hw))
      simp only [Nat.zero_add] at this
      exact this.elim (fun x => .inl (x.mono fun v w' ⟨hr, hp, hs⟩ => ⟨hr, by unfold factM; rw [hf]; exact hp, hs⟩)) .inr)
    (fun g w L hL hSw hp => fin g w L hL hSw hp) fs.length (Array.replicate ops.size false) (fun _ => undef) w.drew
    (by rw [List.countP_eq_length.2]; · simp
        · intro j _; simp only [hf]; rfl) (by simp) (fun j oj hj => by rw [hf] at hj; cases hj) (fun j _ => hf j) (by rw [show (fun k => (Array.replicate ops.size false).getD k false) = fun _ => false from funext hf]; exact h0) (fun j _ hj => by rw [hf] at hj; cases hj)
  have e1 : fs.length + (ops.size - fs.length) = ops.size := by have := hW.le; omega
  rw [e1] at h
  have e2 : ∀ m, frL ops a0 (fun _ => undef) (fun j => (Array.replicate ops.size false).getD j false) m = a0 := by
    intro m
    induction m with
    | zero => rfl
    | succ m ihm => unfold frL; rw [hf, ihm]; simp
  rw [e2] at h
  exact h
end
end Go.Proofs.YtlmabbigfdbmbaaGreatDoor.Ord
