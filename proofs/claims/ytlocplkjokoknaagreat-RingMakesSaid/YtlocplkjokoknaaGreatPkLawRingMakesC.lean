/- Part 3 of what the law LawRingMakes needs. No condition but those each theorem states. -/
import Derived.Deep.CutBlock
import Derived.Laws.ResultCell
import Derived.Test.YtlocplkjokoknaaGreatProg
import Derived.Test.YtlocplkjokoknaaGreatPkLawRingMakesB
set_option linter.unusedVariables false
set_option linter.unusedSimpArgs false
set_option maxHeartbeats 32000000
set_option maxRecDepth 100000
open List renaming getD_eq_getElem?_getD → kQa, replicate → kQc, getElem?_toArray → kQd, getElem?_cons_succ → kQe, toList_toArray → kQf, getElem?_cons_zero → kQg, getElem?_eq_getElem → kQi, length_append → kQj, filterMap_cons → kQl, filterMap_nil → kQm, take_of_length_le → kQn, length_take → kQp, getElem?_append_right → kQq, map_toArray → kQs, drop_of_length_le → kQt, mem_of_getElem? → kQu, length_drop → kQv, map_cons → kQw
open Nat renaming lt_of_lt_of_le → kQb, le_refl → kQh, le_trans → kQk, eq_of_beq_eq_true → kQr
open Option renaming map_some → kQo
namespace Go.Proofs.YtlocplkjokoknaaGreat
open Go.RowKit Go.MapKept
attribute [local go_sem ↓] Go.wp_at_zero Go.wp_at_succ
def qXV (m:List (List UInt8×Ent)) (x:List UInt8):Option Ent:=(m.find? fun p=>decide (p.1=x)).map (·.2)
def qXn (s:BSt) (k bs x:List UInt8):Option (List UInt8):=
 if s.mode=0 then(if x.length<28 then none else qWO k (x.take 12) bs (x.drop 12))
 else match qXV s.m x with
  | none=>none
  | some e=>if e.key=k∧e.beside=bs then some e.text else none
theorem lookM_none {m:List (List UInt8×Ent)} {x:List UInt8} (h:∀p∈m,p.1≠x):qXV m x=none:=by
 simp only [qXV,Option.map_eq_none_iff,List.find?_eq_none,decide_eq_true_eq]
 exact h
theorem MapB.one {lo b:Nat} {m:List (List UInt8×Ent)} {W:World} (h:MapB lo b m W) {i j:Nat} {x:List UInt8} {e e':Ent} (hi:m[i]?=some (x,e)) (hj:m[j]?=some (x,e')):i=j:=by
 obtain⟨es,clock,hb,hst,hall⟩:=h.has
 obtain⟨a,ha,hra⟩:=hall.get i _ hi
 obtain⟨c,hc,hrc⟩:=hall.get j _ hj
 have hn:=hst.2.2
 obtain⟨hi1,hi2⟩:=List.getElem?_eq_some_iff.mp ha
 obtain⟨hj1,hj2⟩:=List.getElem?_eq_some_iff.mp hc
 have hk:a.key=c.key:=by rw [hra.1,hrc.1]
 have hp:=List.pairwise_iff_getElem.mp hn
 have hx:(es.toList.map (·.key))[i]'(by rw [List.length_map];exact hi1)=(es.toList.map (·.key))[j]'(by rw [List.length_map];exact hj1):=by rw [List.getElem_map,List.getElem_map,hi2,hj2,hk]
 rcases Nat.lt_trichotomy i j with h1|h1|h1
 ·exact absurd hx (hp i j _ _ h1)
 ·exact h1
 ·exact absurd hx.symm (hp j i _ _ h1)
theorem MapB.look {lo b:Nat} {m:List (List UInt8×Ent)} {W:World} (h:MapB lo b m W) {j:Nat} {x:List UInt8} {e:Ent} (hj:m[j]?=some (x,e)):qXV m x=some e:=by
 cases hf:m.find? fun p=>decide (p.1=x)with
 | none=>
  rw[List.find?_eq_none]at hf
  exact absurd (show(x,e).1=x from rfl) (by have:=hf _ (kQu hj);simp at this)
 | some p=>
  obtain⟨i,hi⟩:=List.getElem?_of_mem (List.mem_of_find?_eq_some hf)
  have hx:p.1=x:=by simpa using List.find?_some hf
  obtain⟨p1,p2⟩:=p
  simp only at hx
  subst hx
  obtain rfl:=h.one hi hj
  rw[hi]at hj
  injection hj with hj
  injection hj with _ hj
  simp [qXV,hf,hj]
theorem eq_arr2 {P:Program} (w:World) (t e:TypeId) (n:Nat) (ht:P.underlying t=some (.array n e)) (he:P.underlying e=some (.int .u8)) (hc:(P.info? e).map (·.size)=some 1) (xs ys:List UInt8) (hx:xs.length=n) (hy:ys.length=n) (dd:Nat) :
  (Op.equalIn (dd+2) t (.agg (W8 xs)) (.agg (W8 ys))).run P w=.ok (decide (xs=ys)) w:=by
 cases hi:P.info? e with
 | none=>simp [hi]at hc
 | some i=>
  have hcs:P.cellsOf e=1:=by
   simp only [hi,kQo,Option.some.injEq]at hc
   simp [Program.cellsOf,hi,hc]
  have h:=run_equalIn_array w (dd+1) (W8 xs) (W8 ys) ht hi
  rw[h]
  rw[hcs,eqItems8 w e he dd xs ys (List.range n) (fun j hj=>by simp at hj;omega)]
  congr 1
  by_cases hq:xs=ys
  ·subst hq;simp
  ·rw [decide_eq_false hq]
   apply Bool.eq_false_iff.2
   intro hall
   apply hq
   rw[List.all_eq_true]at hall
   apply List.ext_getElem (by omega)
   intro j h1 h2
   have:=hall j (by simp;omega)
   simpa [kQa,h1,h2]using this
theorem eq_whoD (k bs k' bs':List UInt8) (hk:k.length=32) (hk':k'.length=32) (W:World) (dd:Nat) :
  (Op.equalIn (dd+3) 130 (.agg (WhoL k bs).toArray) (.agg (WhoL k' bs').toArray)).run Tryz.prog W=.ok (decide (k=k'∧bs=bs')) W:=by
 have hfs : (Tryz.prog.fieldsOf 130).toList.map (fun f => (f.name == "_", f.type, f.offset)) = [(false, 38, 0), (false, 9, 32)] := by kernel_rfl
 have ht:Tryz.prog.underlying 130=some (.struct (Tryz.prog.fieldsOf 130)):=by kernel_rfl
 have hp:Tryz.prog.stoodInHeld 130=false:=by kernel_rfl
 rw[run_equalIn_struct W (dd+2) _ _ _ ht hp]
 clear ht hp
 generalize (Tryz.prog.fieldsOf 130).toList=fs at hfs
 obtain⟨f1,f2,rfl⟩:∃f1 f2,fs=[f1,f2]:=by
  rcases fs with _|⟨f1,_|⟨f2,_|⟨f3,fs⟩⟩⟩<;>simp at hfs
  exact⟨f1,f2,rfl⟩
 simp only [kQw,List.map_nil,List.cons.injEq,Prod.mk.injEq,and_true]at hfs
 obtain⟨⟨n1,t1,o1⟩,n2,t2,o2⟩:=hfs
 have n1 : f1.name ≠ "_" := by simpa using n1
 have n2 : f2.name ≠ "_" := by simpa using n2
 have hsz:(Tryz.prog.info? 38).map (·.size)=some 32:=by kernel_rfl
 obtain⟨i,hi,hsz⟩:=Option.map_eq_some_iff.1 hsz
 have p1:∀(k bs:List UInt8),k.length=32→(part 38 (WhoL k bs).toArray 0).run Tryz.prog W=.ok (.agg (W8 k)) W:=by
  intro k bs hk
  simp [part,isAgg,run_underlying Tryz.underlying38,sizeOf,typeInfo,hi,hsz]
  rw[WhoL,List.take_append_of_le_length (by rw [qQt,hk];exact kQh _),kQn (by rw [qQt,hk];exact kQh _)]
  rfl
 have p2:∀(k bs:List UInt8),k.length=32→(part 9 (WhoL k bs).toArray 32).run Tryz.prog W=.ok (.string (strB bs)) W:=by
  intro k bs hk
  have hc:=who_bes (bs:=bs) hk
  simp only [part,isAgg,Sem.run_bind,run_underlying Tryz.underlying9,Result.andThen_ok,Sem.run_pure,hc]
  simp
 have q1:=eq_arr2 W 38 5 32 Tryz.underlying38 Tryz.underlying5 (by kernel_rfl) k k' hk hk' dd
 have q2:=run_equalIn_string (P:=Tryz.prog) W (dd+1) 9 (strB bs) (strB bs') Tryz.underlying9
 have a1:=p1 k bs hk
 have a2:=p1 k' bs' hk'
 have b1:=p2 k bs hk
 have b2:=p2 k' bs' hk'
 clear p1 p2 hsz hi
 unfold Op.eqFields
 rw[if_pos n1,t1,o1,Sem.run_bind,a1,Result.andThen_ok,Sem.run_bind,a2,Result.andThen_ok,Sem.run_bind,q1,Result.andThen_ok]
 by_cases h1:k=k'
 ·rw [decide_eq_true h1]
  unfold Op.eqFields
  simp only [Bool.not_true,Bool.false_eq_true,if_false]
  rw[if_pos n2,t2,o2,Sem.run_bind,b1,Result.andThen_ok,Sem.run_bind,b2,Result.andThen_ok,Sem.run_bind,q2,Result.andThen_ok,qJq]
  unfold Op.eqFields
  by_cases h2:bs=bs'<;>simp [h1,h2]
 ·rw [decide_eq_false h1]
  simp [h1]
theorem eq_who (k bs k' bs':List UInt8) (hk:k.length=32) (hk':k'.length=32) (W:World) :
  (Op.equalIn 10000 130 (.agg (WhoL k bs).toArray) (.agg (WhoL k' bs').toArray)).run Tryz.prog W=.ok (decide (k=k'∧bs=bs')) W:=eq_whoD k bs k' bs' hk hk' W 9997
theorem qKK {o:Oper} {a:Act} (t2:TypeId) (x y:Operand) (ho:o.op=.binOp .neq 130 x y t2) (k bs k' bs':List UInt8) (hk:k.length=32) (hk':k'.length=32) (hx:a.eval x=.agg (WhoL k bs).toArray) (hy:a.eval y=.agg (WhoL k' bs').toArray) (W:World) :
  (execOp a.eval o).run Tryz.prog W=.ok (.value (.bool (!decide (k=k'∧bs=bs')))) W:=by
 have hm:Tryz.prog.eqGuardType Tryz.prog.depth 130=false:=by kernel_rfl
 unfold execOp
 simp only [ho,hx,hy,Sem.run_bind,Sem.run_pure,run_neq_struct,run_eqGuard_agg (w:=W) _ _ x y _ _ hm,eq_who k bs k' bs' hk hk' W,Result.andThen_ok]
theorem qQI {P:Program} {o:Oper} {a:Act} (ty:TypeId) (x:Operand) (ho:o.op=.load ty x) (b off:Nat) (hx:a.eval x=.pointer (some ⟨b,off,none⟩)) (l:List Value) {W:World} (h:W.rangeAt b off l) {d:TypeDesc} (hu:P.underlying ty=some d)
  (hd:d.isRow=true) (hi:(P.info? ty).map (·.size)=some l.length):(execOp a.eval o).run P W=.ok (.value (.agg l.toArray)) W:=by
 unfold execOp
 simp only [ho,hx,Instr.loadAt,Instr.sureAddr,Sem.run_bind,Sem.run_pure,Result.andThen_ok,run_loadVar_mid W b off _ _ _ h hu hd hi]
theorem ent_who {W:World} {M:Nat} {k bs:List UInt8} {A:Option Addr} {n c:Nat} {T:TypeId} {fr:Nat×Nat} (h:W.heap[M]?=some (.cells (EntL k bs A n c).toArray T fr)):W.rangeAt M 0 (WhoL k bs):=by
 intro j v hj
 refine qQg h (0+j) ?_
 have hl:j<(WhoL k bs).length:=(List.getElem?_eq_some_iff.1 hj).1
 rw[Nat.zero_add,kQd,EntL,show B8 k++[Value.string (strB bs),.slice A n c]=WhoL k bs++[.slice A n c] by simp [WhoL],List.getElem?_append_left hl,hj]
theorem ent_text {k bs:List UInt8} {A:Option Addr} {n c:Nat} (hk:k.length=32):(EntL k bs A n c).toArray[33]?=some (.slice A n c):=by
 rw[kQd,EntL,kQq (by rw [qQt,hk];omega),qQt,hk]
 rfl
theorem bopen_real (w0:World) (g S D b lo:Nat) (s:BSt) (w:World) (h:BoxB w0 g S D b lo s w) (hmo:s.mode=0) (k bs x:List UInt8) (hk:k.length=32) (Ab:Option Addr) (qb cb:Nat) (hqb:bs.length=qb) (hRb:RdB w Ab bs) (hb2:qb≤60000)
  (A:Option Addr) (q c:Nat) (hq:x.length=q) (hc:q≤c) (hR:RdB w A x) (hq2:q≤70000) :
  Calls Tryz.prog 36 #[.pointer (some ⟨g,0,none⟩),.agg (W8 k),.slice Ab qb cb,.slice A q c] w (OpenP w (qXn s k bs x)):=by
 have H:=Lh h
 have HK:=Lh hk
 have HB:=Lh hqb
 have RB:=Lh hRb
 have HB2:=Lh hb2
 have HQ:=Lh hq
 have HC:=Lh hc
 have HR:=Lh hR
 have Q2:=Lh hq2
 have MO:=Lh (show(s.mode:Int)=0 by omega)
 have qbd:(q:Int)≤70000:=by omega
 have ZK:=Lh (show(Tryz.prog.info? 38).map (·.size)=some (W8 k).size by rw [qQw,hk];kernel_rfl)
 obtain⟨i0,hi0,hz0,hz1,hz2⟩:=info_parts (show(Tryz.prog.info? 5).map (fun i=>(i.zero,i.size,i.bytes))=some (some (.int .u8 0),1,1) by kernel_rfl)
 have I0:=Lh hi0
 have I1:=Lh hz1
 obtain⟨r,hr⟩:∃r,r=qXn s k bs x:=⟨_,rfl⟩
 have RH:=Lh (show r=if x.length<28 then none else qWO k (x.take 12) bs (x.drop 12) by rw [hr,qXn,if_pos hmo])
 rw[←hr]
 clear h hmo hk hqb hRb hb2 hq hc hR hq2 hi0 hz0 hz1 hz2 hr
 go_enter Tryz.func36,Tryz.ntmps36
 go_upto_region 1 with fail
 generalize hw1:World.alloc w _=w1
 have M1:=Lh (show w1.heap[w.heap.size]?=some (.cells (W8 k) 38 (0,0)) by rw [←hw1];exact qQk _ _ _ rfl)
 have B1:=Lh (show Below w.heap.size w w1 by rw [←hw1];exact qQh _ _)
 clear hw1
 go_wp2_with fail
 refine(qWi w0 g S D b lo s w1 (H.out.keep B1.out)).mono ?_
 rintro e2 wd ⟨rfl,hw⟩
 rw[hw]
 clear hw wd
 have c0:=qQg (H.out.keep B1.out).row 0 rfl
 rw[MO.out]at c0
 by_cases hlt:q<28
 ·have d1:decide ((q:Int)<28)=true:=by simp;omega
  have d2:decide (q<28)=true:=by simp;omega
  have RN:=Lh (show r=none by rw [RH.out,if_pos (by rw [HQ.out];exact hlt)])
  go_wp2_with fail
  go_ret2
  rw[RN.out]
  exact⟨rfl,B1.out⟩
 ·have d1:decide ((q:Int)<28)=false:=by simp;omega
  have d2:decide (q<28)=false:=by simp;omega
  have RN:=Lh (show r=qWO k (x.take 12) bs (x.drop 12) by rw [RH.out,if_neg (by rw [HQ.out];exact hlt)])
  have Q28:=Lh (show 28≤q by omega)
  obtain⟨AX,hAX,hRX,hBX⟩:=qVR (P:=Tryz.prog) 22 5 Tryz.underlying22 I0.out I1.out A q c 12 (by omega)
  have HX:=Lh hAX
  have RX:=Lh hRX
  have BX:=Lh hBX
  obtain⟨qA,oA,hA,_⟩:=(HR.out.keep B1.out) 0 (by rw [HQ.out];omega)
  have N12:=Lh (show(x.take 12).length=12 by rw [kQp,HQ.out];omega)
  have RG:=Lh (show RdB w1 (some ⟨qA,oA,none⟩) (x.take 12) by rw [←hA];exact(HR.out.keep B1.out).take 12)
  have ZN:=Lh (show(Tryz.prog.info? 128).map (·.size)=some (B8 (x.take 12)).length by rw [qQt,N12.out];kernel_rfl)
  have AE:=Lh hA
  clear hlt hAX hRX hBX hA
  go_upto_region 6 with fail
  clear c0 d1 d2
  have B:=Lh (show Below w1.heap.size w1 w1.drew from(Below.refl _ _).drew)
  refine qQu (fun W=>Below w1.heap.size w1 W) [(true,0),(true,1),(true,2),(true,3),(true,4),(true,5),(true,6),(true,7),(false,8),(true,9),(true,10),(true,11),(true,12)] (by kernel_rfl) (by kernel_rfl) (fun _ _ d _ _ h=>by cases d<;>exact h) ?_
  simp only [kQl,kQm,kQd,kQg,kQe,kQo]
  refine qQc (by rfl) B.out (fun W hW=>qQj 38 (.tmp 5) rfl w.heap.size rfl 38 (W8 k) (0,0) _ (qQb hW (qQe M1.out) M1.out) Tryz.underlying38 rfl ZK.out) ?_
  simp only [Act.put,pq1,pq2,pq3]
  refine qQc (by rfl) B.out (fun W hW=>by go_simp;rfl) ?_
  simp only [Act.put,pq1,pq2,pq3]
  refine qQc (by rfl) B.out (fun W hW=>run_cut_to 22 (.tmp 23) (.const (.int .i64 12)) rfl 5 Tryz.underlying22 I0.out I1.out A q c 12 rfl rfl (by have:=Q28.out;have:=HC.out;omega) W) ?_
  simp only [Act.put,pq1,pq2,pq3]
  refine qQc (by rfl) B.out (fun W hW=>qWK 128 (.tmp 24) rfl 12 5 Tryz.underlying128 A 12 c rfl (kQh _) W) ?_
  simp only [Act.put,pq1,pq2,pq3]
  refine qQc (by rfl) B.out (fun W hW=>qWA 128 (.tmp 25) rfl qA oA (by rw [←AE.out];rfl) (x.take 12) (qKR (RG.out.keep hW)) Tryz.underlying128 rfl ZN.out) ?_
  simp only [Act.put,pq1,pq2,pq3]
  refine qQc (by rfl) B.out (fun W hW=>by go_simp;rfl) ?_
  simp only [Act.put,pq1,pq2,pq3]
  refine qQc (by rfl) B.out (fun W hW=>by go_simp;rfl) ?_
  simp only [Act.put,pq1,pq2,pq3]
  refine qQc (by rfl) B.out (fun W hW=>qVo 22 (.tmp 28) (.const (.int .i64 12)) rfl Tryz.underlying22 HX.out rfl rfl W) ?_
  simp only [Act.put,pq1,pq2,pq3]
  refine qQE (by rfl) (fun K hK=>?_)
  go_simp
  refine(open_go k (x.take 12) HK.out N12.out w1.drew Ab qb cb bs HB.out ((RB.out.keep B1.out).keep B.out) AX (q-12) (c-12) (x.drop 12) (by rw [kQv,HQ.out]) (by have:=HC.out;omega) (RX.out _ x HQ.out HC.out ((HR.out.keep B1.out).keep B.out)) (by have:=HB2.out;omega) (by have:=Q2.out;omega)).mono ?_
  rw[←RN.out]
  rintro e2 w2 ⟨hm2,hb2⟩
  have B2:=Lh (B.out.trans (hb2.mono B.out.size))
  have BW:=Lh (show Below w.heap.size w w2 from B1.out.trans (B2.out.mono B1.out.size))
  have MZ:=Lh (kQk B1.out.size B.out.size)
  clear hb2
  cases r with
  | none=>
   obtain rfl:=hm2
   refine hK.out _ _ B2.out ?_
   clear hK K
   refine qQc (by rfl) B2.out (fun W hW=>by go_simp;rfl) ?_
   simp only [Act.put,pq1,pq2,pq3]
   refine qQc (by rfl) B2.out (fun W hW=>by go_simp;rfl) ?_
   simp only [Act.put,pq1,pq2,pq3]
   refine qQc (by rfl) B2.out (fun W hW=>by go_simp;rfl) ?_
   simp only [Act.put,pq1,pq2,pq3]
   refine qQc (by rfl) B2.out (fun W hW=>by go_simp;rfl) ?_
   simp only [Act.put,pq1,pq2,pq3]
   refine qQG ?_
   go_wp2_with fail
   go_ret2
   exact⟨rfl,BW.out⟩
  | some t=>
   obtain⟨v,rfl,ho⟩:=hm2
   have O:=Lh (ho.mono MZ.out)
   clear ho
   refine hK.out _ _ B2.out ?_
   clear hK K
   refine qQc (by rfl) B2.out (fun W hW=>by go_simp;rfl) ?_
   simp only [Act.put,pq1,pq2,pq3]
   refine qQc (by rfl) B2.out (fun W hW=>by go_simp;rfl) ?_
   simp only [Act.put,pq1,pq2,pq3]
   refine qQc (by rfl) B2.out (fun W hW=>by go_simp;rfl) ?_
   simp only [Act.put,pq1,pq2,pq3]
   refine qQc (by rfl) B2.out (fun W hW=>by go_simp;rfl) ?_
   simp only [Act.put,pq1,pq2,pq3]
   refine qQG ?_
   go_wp2_with fail
   go_ret2
   exact⟨⟨v,rfl,O.out⟩,BW.out⟩
theorem bopen_ideal (w0:World) (g S D b lo:Nat) (s:BSt) (w:World) (h:BoxB w0 g S D b lo s w) (hmo:s.mode=1) (k bs x:List UInt8) (hk:k.length=32) (Ab:Option Addr) (qb cb:Nat) (hqb:bs.length=qb) (hRb:RdB w Ab bs)
  (A:Option Addr) (q c:Nat) (hq:x.length=q) (hR:RdB w A x) (hq2:q≤100000) (ht:∀p∈s.m,p.2.text.length≤100000) :
  Calls Tryz.prog 36 #[.pointer (some ⟨g,0,none⟩),.agg (W8 k),.slice Ab qb cb,.slice A q c] w (OpenP w (qXn s k bs x)):=by
 have H:=Lh h
 have HK:=Lh hk
 have HB:=Lh hqb
 have RB:=Lh hRb
 have HQ:=Lh hq
 have HR:=Lh hR
 have Q2:=Lh hq2
 have MO:=Lh (show(s.mode:Int)=1 by omega)
 have ZK:=Lh (show(Tryz.prog.info? 38).map (·.size)=some (W8 k).size by rw [qQw,hk];kernel_rfl)
 obtain⟨r,hr⟩:∃r,r=qXn s k bs x:=⟨_,rfl⟩
 have RH:=Lh (show r=match qXV s.m x with|none=>none|some e=>if e.key=k∧e.beside=bs then some e.text else none by rw [hr,qXn,if_neg (by omega)])
 rw[←hr]
 have LK:∃(e:Ent) (A':Option Addr) (c':Nat) (β:Bool),e.key.length=32∧e.text.length≤c'∧e.text.length≤100000∧RdB w A' e.text∧(β=false→r=none)∧(β=true→r=if e.key=k∧e.beside=bs then some e.text else none)∧∀W':World,W'.heap[b]?=w.heap[b]?→(Instr.lookup 78 (.map (some b)) (.string (strB x)) true).run Tryz.prog W'=.ok (.tuple #[EntV e.key e.beside A' e.text.length c',.bool β]) W':=by
  rcases qK3 h.map x (by omega)with ⟨h1,h2⟩|⟨j,e,A',c',hj,h2,hRe,h32,hlc,_⟩
  ·exact⟨⟨kQc 32 0,[],[]⟩,none,0,false,by simp,kQh _,by simp,RdB.nil _ _,fun _=>by rw [RH.out,lookM_none h1],fun e=>(by cases e),h2⟩
  ·exact⟨e,A',c',true,h32,hlc,ht _ (kQu hj),hRe,fun e=>(by cases e),fun _=>by rw [RH.out,h.map.look hj],h2⟩
 obtain⟨e,A',c',β,h32,hlc,hte,hRe,hb0,hb1,hlk⟩:=LK
 have K32:=Lh h32
 have LC:=Lh hlc
 have TE:=Lh hte
 have RE:=Lh hRe
 have R0:=Lh hb0
 have R1:=Lh hb1
 have LKH:=Lh hlk
 have ML:=Lh h.map.lt
 obtain⟨nt,hnt⟩:∃nt,nt=e.text.length:=⟨_,rfl⟩
 have NT:=Lh hnt.symm
 rw[←hnt]at LC TE LKH
 obtain⟨cs,hcs⟩:∃cs,cs=(EntL e.key e.beside A' nt c').toArray:=⟨_,rfl⟩
 have CE:=Lh hcs
 have CS:=Lh (show cs.size=34 by rw [hcs,qJS _ _ _ _ _ h32])
 have CO:=Lh (show cs.all (·.oneCell')=true by rw [hcs];exact EntL_one _ _ _ _ _)
 have LKH:=Lh (show ∀W':World,W'.heap[b]?=w.heap[b]?→(Instr.lookup 78 (.map (some b)) (.string (strB x)) true).run Tryz.prog W'=.ok (.tuple #[.agg cs,.bool β]) W' by rw [hcs];exact LKH.out)
 have ZW:=Lh (show ∀k bs:List UInt8,k.length=32→(Tryz.prog.info? 130).map (·.size)=some (WhoL k bs).length by intro k bs hk;have:=qJP k bs hk;rw [List.size_toArray]at this;rw [this];exact qKu)
 clear h hmo hk hqb hRb hq hR hq2 hr ht h32 hlc hte hRe hb0 hb1 hlk hnt hcs
 go_enter Tryz.func36,Tryz.ntmps36
 go_upto_region 1 with fail
 generalize hw1:World.alloc w _=w1
 have M1:=Lh (show w1.heap[w.heap.size]?=some (.cells (W8 k) 38 (0,0)) by rw [←hw1];exact qQk _ _ _ rfl)
 have B1:=Lh (show Below w.heap.size w w1 by rw [←hw1];exact qQh _ _)
 clear hw1
 go_wp2_with fail
 refine(qWi w0 g S D b lo s w1 (H.out.keep B1.out)).mono ?_
 rintro e2 wd ⟨rfl,hw⟩
 rw[hw]
 clear hw wd
 have H1:=Lh (H.out.keep B1.out)
 have c0:=qQg H1.out.row 0 rfl
 rw[MO.out]at c0
 go_upto_region 7 with fail
 clear c0
 have B:=Lh (show Below w1.heap.size w1 w1.drew from(Below.refl _ _).drew)
 refine qQu (fun W=>Below w1.heap.size w1 W) [(true,0),(true,1),(true,2),(true,3),(true,4),(true,5),(true,6),(true,7),(true,8),(true,9),(false,10),(false,11),(true,12)] (by kernel_rfl) (by kernel_rfl) (fun _ _ d _ _ h=>by cases d<;>exact h) ?_
 simp only [kQl,kQm,kQd,kQg,kQe,kQo]
 refine qQc (by rfl) B.out (fun W hW=>by go_simp;rfl) ?_
 simp only [Act.put,pq1,pq2,pq3]
 refine qQc (by rfl) B.out (fun W hW=>by go_simp;rfl) ?_
 simp only [Act.put,pq1,pq2,pq3]
 refine qQc (by rfl) B.out (fun W hW=>by go_simp;rfl) ?_
 simp only [Act.put,pq1,pq2,pq3]
 refine qQc (by rfl) B.out (fun W hW=>qQq 78 (.tmp 36) rfl _ Tryz.underlying78 rfl rfl (qQg (qQb hW (qQe H1.out.row) H1.out.row) 2 rfl)) ?_
 simp only [Act.put,pq1,pq2,pq3]
 refine qQc (by rfl) B.out (fun W hW=>by go_simp;rfl) ?_
 simp only [Act.put,pq1,pq2,pq3]
 refine qQc (by rfl) B.out (fun W hW=>qZo 22 9 (.tmp 38) rfl Tryz.underlying22 Tryz.underlying5 Tryz.underlying9 ((HR.out.keep B1.out).keep hW) q c HQ.out rfl) ?_
 simp only [Act.put,pq1,pq2,pq3]
 refine qQc (by rfl) B.out (fun W hW=>qKL 78 (.tmp 37) (.tmp 39) rfl rfl rfl (LKH.out W ((hW.block b (kQb ML.out B1.out.size)).trans (B1.out.block b ML.out)))) ?_
 simp only [Act.put,pq1,pq2,pq3]
 refine qQc (by rfl) B.out (fun W hW=>by go_simp;rfl) ?_
 simp only [Act.put,pq1,pq2,pq3]
 refine qQc (by rfl) B.out (fun W hW=>by go_simp;rfl) ?_
 simp only [Act.put,pq1,pq2,pq3]
 refine qQc (by rfl) B.out (fun W hW=>by go_simp;rfl) ?_
 simp only [Act.put,pq1,pq2,pq3]
 refine qQE (by rfl) (fun K hK=>?_)
 go_simp
 generalize hM:Array.size (World.heap w1)=M
 generalize hw2:World.drew (World.alloc w1 _)=w2
 have M2:=Lh (show w2.heap[M]?=some (.cells (EntL (kQc 32 0) [] none 0 0).toArray 132 (0,0)) by rw [←hw2];exact qQk w1 _ _ hM.symm)
 have B2:=Lh (show Below w1.heap.size w1 w2 by rw [←hw2];exact(qQh w1 _).trans (Below.refl _ _).drew)
 have ME:=Lh hM.symm
 clear hw2 hM
 refine hK.out _ _ B2.out ?_
 clear hK K
 refine qQE (by rfl) (fun K hK=>?_)
 refine qQN 132 (.tmp 10) (.tmp 41) rfl M cs rfl rfl _ _ M2.out (by rw [CS.out];exact info_ent) (by rw [CS.out];rfl) CO.out ?_
 intro w3 hr3 hg3 _
 have R3:=Lh hr3
 have B3:=Lh (B2.out.trans (qQi hg3 B2.out.size (by rintro k ⟨⟩;rw [ME.out];exact kQh _)))
 have BW:=Lh (show Below w.heap.size w w3 from B1.out.trans (B3.out.mono B1.out.size))
 have M3:=Lh (qQb B3.out (qQe M1.out) M1.out)
 clear hr3 hg3
 refine hK.out _ _ B3.out ?_
 clear hK K
 refine qQc (by rfl) B3.out (fun W hW=>by go_simp;rfl) ?_
 simp only [Act.put,pq1,pq2,pq3]
 refine qQG ?_
 cases β with
 | false=>
  have RN:=Lh (R0.out rfl)
  go_wp2_with fail
  go_ret2
  rw[RN.out]
  exact⟨rfl,BW.out⟩
 | true=>
  have RN:=Lh (R1.out rfl)
  obtain⟨δ,hδ⟩:∃δ,δ=decide (e.key=k∧e.beside=bs):=⟨_,rfl⟩
  have DE:=Lh hδ
  clear hδ
  cases δ with
  | false=>
   have RN:=Lh (show r=none by rw [RN.out,if_neg (of_decide_eq_false DE.out.symm)])
   go_upto_region 9 with (first
    | (refine qQl (by rfl) (qQI 130 (.tmp 46) rfl M 0 rfl (WhoL e.key e.beside) (ent_who (by rw [←CE.out];exact R3.out)) Tryz.underlying130 rfl (ZW.out _ _ K32.out)) ?_)
    | (refine qQl (by rfl) (qQj 38 (.tmp 5) rfl w.heap.size rfl 38 (W8 k) (0,0) _ M3.out Tryz.underlying38 rfl ZK.out) ?_)
    | (refine qQl (by rfl) (qZo 22 9 (.tmp 49) rfl Tryz.underlying22 Tryz.underlying5 Tryz.underlying9 (RB.out.keep BW.out) qb cb HB.out rfl) ?_)
    | (refine qQl (by rfl) (qVJ (.tmp 48) (.tmp 50) rfl k bs HK.out rfl rfl _) ?_)
    | (refine qQl (by rfl) (show(execOp _ _).run _ _=.ok (.value (.bool (!false))) _ by rw [DE.out];exact qKK _ (.tmp 47) (.tmp 51) rfl e.key e.beside k bs K32.out HK.out rfl rfl _) ?_))
   go_wp2_with fail
   go_ret2
   rw[RN.out]
   exact⟨rfl,BW.out⟩
  | true=>
   have RN:=Lh (show r=some e.text by rw [RN.out,if_pos (of_decide_eq_true DE.out.symm)])
   go_upto_region 10 with (first
    | (refine qQl (by rfl) (qQI 130 (.tmp 46) rfl M 0 rfl (WhoL e.key e.beside) (ent_who (by rw [←CE.out];exact R3.out)) Tryz.underlying130 rfl (ZW.out _ _ K32.out)) ?_)
    | (refine qQl (by rfl) (qQj 38 (.tmp 5) rfl w.heap.size rfl 38 (W8 k) (0,0) _ M3.out Tryz.underlying38 rfl ZK.out) ?_)
    | (refine qQl (by rfl) (qZo 22 9 (.tmp 49) rfl Tryz.underlying22 Tryz.underlying5 Tryz.underlying9 (RB.out.keep BW.out) qb cb HB.out rfl) ?_)
    | (refine qQl (by rfl) (qVJ (.tmp 48) (.tmp 50) rfl k bs HK.out rfl rfl _) ?_)
    | (refine qQl (by rfl) (show(execOp _ _).run _ _=.ok (.value (.bool (!true))) _ by rw [DE.out];exact qKK _ (.tmp 47) (.tmp 51) rfl e.key e.beside k bs K32.out HK.out rfl rfl _) ?_))
   have c33:=qQg R3.out 33 (show cs[33]?=some (.slice A' nt c') by rw [CE.out];exact ent_text K32.out)
   go_wp2_with fail
   refine(qVx w3 A' nt c' e.text NT.out (RE.out.keep BW.out) (by have:=TE.out;omega)).mono ?_
   rintro e2 w4 ⟨v,rfl,ho,hb⟩
   have O:=Lh (ho.mono BW.out.size)
   have BB:=Lh (BW.out.trans (hb.mono BW.out.size))
   clear ho hb c33
   go_wp2_with fail
   go_ret2
   rw[RN.out]
   exact⟨⟨v,rfl,O.out⟩,BB.out⟩
end Go.Proofs.YtlocplkjokoknaaGreat
namespace Go.Proofs.YtlocplkjokoknaaGreat
open Go.RowKit
theorem streamL_getD (k n:List UInt8) (count:UInt32) (bs:List UInt8) (i:Nat) (hi:i<bs.length):(qQY k n count bs).getD i 0=bs.getD i 0 ^^^ qJh k n count i:=by
 rw[kQa,qJa _ _ _ _ _ hi];rfl
theorem qY6 (k n:List UInt8) (count:UInt32) (bs:List UInt8):qQY k n count (qQY k n count bs)=bs:=by
 apply List.ext_getElem?
 intro i
 by_cases hi:i<bs.length
 ·rw [qJa _ _ _ _ _ (by rw [qQX];exact hi),streamL_getD _ _ _ _ _ hi,UInt8.xor_assoc,UInt8.xor_self,UInt8.xor_zero,kQi hi,kQa,kQi hi]
  rfl
 ·rw [List.getElem?_eq_none (by rw [qQX,qQX];omega),List.getElem?_eq_none (by omega)]
def SealR (s:BSt) (e:Ent) (s':BSt) (r:Option (List UInt8)):Prop:=
 (s.mode=1∧(s',r)=qZf 8 s e)∨
 (s.mode=0∧r=some (qVd s e.key e.beside e.text)∧s'.mode=0∧s'.F=s.F∧s'.u=s.u+12∧s'.n=s.n+1∧(∀y,qZB s'.m y=(qZB s.m y||decide (y=qVd s e.key e.beside e.text)))∧s'.m.length≤s.m.length+1)
def SealP (w0:World) (g S D b lo:Nat) (w:World) (s:BSt) (e:Ent) (en:Ending) (w':World):Prop:=
 ∃A m c s' r,en=.returned (.tuple #[.slice A m c,.int .i64 (if r.isSome then 0 else 15)])∧SealR s e s' r∧RdB w' A (r.getD [])∧(r.getD []).length=m∧m≤c∧(∀a,A=some a→w.heap.size≤a.block∧a.block<w'.heap.size)∧BoxB w0 g S D b lo s' w'∧BoxF g S b w w'
theorem qVB (w0:World) (g S D b lo:Nat) (s:BSt) (w:World) (h:BoxB w0 g S D b lo s w) (hmo:s.mode=0∨s.mode=1) (e:Ent) (hk:e.key.length=32) (Ab:Option Addr) (qb cb:Nat) (hqb:e.beside.length=qb) (hRb:RdB w Ab e.beside) (hb2:qb≤60000)
  (A:Option Addr) (q c:Nat) (hq:e.text.length=q) (hc:q≤c) (hR:RdB w A e.text) (hO:e.text≠[]→∀a,A=some a→a.block≠g∧a.block≠S∧a.block≠b)
  (hq2:q≤60000) (hu:s.u+8*(q+28)≤900000) (hF:s.F.length≤100000) (hm:s.m.length≤10000) (hn:s.n≤100000) (hlo:lo≤w.heap.size) :
  Calls Tryz.prog 48 #[.pointer (some ⟨g,0,none⟩),.agg (W8 e.key),.slice Ab qb cb,.slice A q c] w (SealP w0 g S D b lo w s e):=by
 rcases hmo with h0|h1
 ·refine(bseal_real w0 g S D b lo s w h h0 e hk Ab qb cb hqb hRb hb2 A q c hq hc hR hO hq2 (by omega) hF hm hn hlo).mono ?_
  rintro en w' ⟨A2,m2,c2,rfl,h1,h2,h3,h4,⟨m',h5,h6,h7⟩,h8⟩
  exact⟨A2,m2,c2,{ s with u:=s.u+12,m:=m',n:=s.n+1 },some (qVd s e.key e.beside e.text),rfl,.inr ⟨h0,rfl,h0,rfl,rfl,rfl,h6,h7⟩,h1,h2,h3,h4,h5,h8⟩
 ·refine(bseal_ideal w0 g S D b lo s w h h1 e hk Ab qb cb hqb hRb hb2 A q c hq hc hR hO hq2 hu hF hm hn hlo).mono ?_
  rintro en w' ⟨A2,m2,c2,rfl,h2,h3,h4,h5,h6,h7⟩
  exact⟨A2,m2,c2,(qZf 8 s e).1,(qZf 8 s e).2,rfl,.inl ⟨h1,rfl⟩,h2,h3,h4,h5,h6,h7⟩
theorem qYT (w0:World) (g S D b lo:Nat) (s:BSt) (w:World) (h:BoxB w0 g S D b lo s w) (hmo:s.mode=0∨s.mode=1) (k bs x:List UInt8) (hk:k.length=32) (Ab:Option Addr) (qb cb:Nat) (hqb:bs.length=qb) (hRb:RdB w Ab bs) (hb2:qb≤60000)
  (A:Option Addr) (q c:Nat) (hq:x.length=q) (hc:q≤c) (hR:RdB w A x) (hq2:q≤70000) (ht:∀p∈s.m,s.mode=1→p.2.text.length≤100000) :
  Calls Tryz.prog 36 #[.pointer (some ⟨g,0,none⟩),.agg (W8 k),.slice Ab qb cb,.slice A q c] w (OpenP w (qXn s k bs x)):=by
 rcases hmo with h0|h1
 ·exact bopen_real w0 g S D b lo s w h h0 k bs x hk Ab qb cb hqb hRb hb2 A q c hq hc hR hq2
 ·exact bopen_ideal w0 g S D b lo s w h h1 k bs x hk Ab qb cb hqb hRb A q c hq hR (by omega) (fun p hp=>ht p hp h1)
theorem openL_seal (k n b t:List UInt8):qWO k n b (qWI k n b t)=some t:=by
 have hl:(qWI k n b t).length-16=(qQY k n 1 t).length:=by rw [qXS,qQX];omega
 have h1:(qWI k n b t).take (qQY k n 1 t).length=qQY k n 1 t:=by rw [qWI];simp
 have h2:(qWI k n b t).drop (qQY k n 1 t).length=tagL k n b (qQY k n 1 t):=by rw [qWI];simp
 rw[qWO,if_neg (by rw [qXS];omega),hl,h1,h2,if_pos rfl,qY6]
theorem open_real (s:BSt) (hs:s.mode=0) (s0:BSt) (k bs t:List UInt8) (k2 bs2:List UInt8):qXn s k2 bs2 (qVd s0 k bs t)=qWO k2 (qQR s0.F s0.u 12) bs2 (qWI k (qQR s0.F s0.u 12) bs t):=by
 have h1:(qVd s0 k bs t).take 12=qQR s0.F s0.u 12:=by rw [qVd,List.take_append_of_le_length (by rw [qQy];exact kQh _),kQn (by rw [qQy];exact kQh _)]
 have h2:(qVd s0 k bs t).drop 12=qWI k (qQR s0.F s0.u 12) bs t:=by rw [qVd,List.drop_append_of_le_length (by rw [qQy];exact kQh _),kQt (by rw [qQy];exact kQh _),List.nil_append]
 rw[qXn,if_pos hs,if_neg (by rw [qVp];omega),h1,h2]
theorem idealL_mode (t:Nat) (s:BSt) (e:Ent):(qZf t s e).1.mode=s.mode∧(qZf t s e).1.F=s.F∧(qZf t s e).1.u≤s.u+t*(e.text.length+28)∧(qZf t s e).1.n≤s.n+1∧(qZf t s e).1.m.length≤s.m.length+1:=by
 induction t generalizing s with
 | zero=>simp [qZf]
 | succ t ih=>
  rw[qZf]
  have e1:(t+1)*(e.text.length+28)=t*(e.text.length+28)+(e.text.length+28):=Nat.succ_mul _ _
  split
  ·obtain⟨h1,h2,h3,h4,h5⟩:=ih { s with u:=s.u+(e.text.length+28) }
   simp only at h1 h2 h3 h4 h5
   exact⟨h1,h2,by omega,h4,h5⟩
  ·simp only [kQj,List.length_cons,List.length_nil]
   exact⟨trivial,trivial,by omega,by omega,by omega⟩
theorem SealR.mode {s s':BSt} {e:Ent} {r:Option (List UInt8)} (h:SealR s e s' r):s'.mode=s.mode∧s'.F=s.F∧s'.u≤s.u+8*(e.text.length+28)∧s'.n≤s.n+1∧s'.m.length≤s.m.length+1:=by
 rcases h with ⟨_,h⟩|⟨h0,h1,h2,h3,h4,h5,_,h6⟩
 ·have h1:s'=(qZf 8 s e).1:=by rw [←h]
  rw[h1]
  exact idealL_mode 8 s e
 ·exact⟨by omega,h3,by omega,by omega,h6⟩
theorem qKi {m:List (List UInt8×Ent)} {x:List UInt8} {e:Ent} (h:qZB m x=false):qXV (m++[(x,e)]) x=some e:=by
 have h1:m.find? (fun p=>decide (p.1=x))=none:=by
  rw[List.find?_eq_none]
  intro p hp
  simpa using not_known h p hp
 simp [qXV,List.find?_append,h1]
theorem qVj (l:List UInt8) (i j:Nat):(strB l).extract i j=strB ((l.drop i).take (j-i)):=by
 apply ByteArray.ext
 rw[ByteArray.data_extract]
 simp [strB,List.extract_eq_take_drop]
theorem qWa {P:Program} {o:Oper} {a:Act} (t:TypeId) (x y z:Operand) (ho:o.op=.slice t x (some y) (some z) none) (hu:P.underlying t=some .string) (l:List UInt8) (i j:Nat) (hij:i≤j) (hj:j≤l.length)
  (hx:a.eval x=.string (strB l)) (k k':IntKind) (zi zj:Int) (hzi:zi=(i:Int)) (hzj:zj=(j:Int)) (hy:a.eval y=.int k zi) (hz:a.eval z=.int k' zj) (W:World):(execOp a.eval o).run P W=.ok (.value (.string (strB ((l.drop i).take (j-i))))) W:=by
 subst hzi hzj
 have h:=run_slice_string (P:=P) W t (strB l) k k' (i:Int) (j:Int) hu (by omega) (by omega) (by rw [qQH];omega)
 have h2:=run_sliceAt_string (P:=P) (w:=W) t (.string (strB l)) (some (.int k (i:Int))) (some (.int k' (j:Int))) none hu
 unfold execOp
 simp only [ho,hx,hy,hz,kQo,Option.map_none,Sem.run_bind,Sem.run_pure,h2,h,Result.andThen_ok,Int.toNat_natCast,qVj]
theorem qWJ {P:Program} {o:Oper} {a:Act} (t:TypeId) (x z:Operand) (ho:o.op=.slice t x none (some z) none) (hu:P.underlying t=some .string) (l:List UInt8) (j:Nat) (hj:j≤l.length)
  (hx:a.eval x=.string (strB l)) (hz:a.eval z=.int .i64 (j:Int)) (W:World):(execOp a.eval o).run P W=.ok (.value (.string (strB (l.take j)))) W:=by
 have h:=run_slice_string_h (P:=P) W t (strB l) hu .i64 (j:Int) (by omega) (by rw [qQH];omega)
 have h2:=run_sliceAt_string (P:=P) (w:=W) t (.string (strB l)) none (some (.int .i64 (j:Int))) none hu
 unfold execOp
 simp only [ho,hx,hz,kQo,Option.map_none,Sem.run_bind,Sem.run_pure,h2,h,Result.andThen_ok,Int.toNat_natCast,qVj,List.drop_zero,Nat.sub_zero]
theorem qXw {P:Program} {o:Oper} {a:Act} (t:TypeId) (x z:Operand) (ho:o.op=.slice t x (some z) none none) (hu:P.underlying t=some .string) (l:List UInt8) (j:Nat) (hj:j≤l.length)
  (hx:a.eval x=.string (strB l)) (hz:a.eval z=.int .i64 (j:Int)) (W:World):(execOp a.eval o).run P W=.ok (.value (.string (strB (l.drop j)))) W:=by
 have h:=run_slice_string_l (P:=P) W t (strB l) hu .i64 (j:Int) (by omega) (by rw [qQH];omega)
 have h2:=run_sliceAt_string (P:=P) (w:=W) t (.string (strB l)) (some (.int .i64 (j:Int))) none none hu
 unfold execOp
 simp only [ho,hx,hz,kQo,Option.map_none,Sem.run_bind,Sem.run_pure,h2,h,Result.andThen_ok,Int.toNat_natCast,qVj,qQH]
 rw[kQn (by rw [kQv];exact kQh _)]
end Go.Proofs.YtlocplkjokoknaaGreat
namespace Go.Proofs.YtlocplkjokoknaaGreat
open Go.RowKit
attribute [local go_sem ↓] Go.wp_at_zero Go.wp_at_succ
theorem rotr_eq (x:UInt32) (n:Nat) (h:n≤32):rotr x n=x >>> (UInt32.ofNat n) ||| x <<< (UInt32.ofNat (32-n)):=by
 unfold rotr rotl
 rw[show 32-(32-n)=n by omega,UInt32.or_comm]
theorem rr_val (x:UInt32) (n:Nat) (hn:n<32) (h0:0<n):bits .or .u32 ((x.toNat:Int)/2 ^ n) ((x.toNat:Int)*2 ^ (32-n) % 4294967296)=((rotr x n).toNat:Int):=by
 have e1:(x.toNat:Int)/2 ^ n=((x >>> (UInt32.ofNat n)).toNat:Int):=by
  have:=shr_low x n hn
  rw[←this,Int.natCast_pow];rfl
 have e2:(x.toNat:Int)*2 ^ (32-n) % 4294967296=((x <<< (UInt32.ofNat (32-n))).toNat:Int):=by
  have e3:(UInt32.ofNat (32-n)).toNat=32-n:=by simp;omega
  rw[UInt32.toNat_shiftLeft,e3,Nat.shiftLeft_eq,Nat.mod_eq_of_lt (show 32-n<32 by omega),Int.natCast_emod,Int.natCast_mul,Int.natCast_pow]
  rfl
 rw[e1,e2,u32_or',rotr_eq x n (by omega)]
theorem qZ6 (x:UInt32) (n:Nat) (w:World) (hn:n<32) (h0:0<n) :
  Calls Tryz.prog 109 #[.int .u32 (x.toNat:Int),.int .u64 (n:Int)] w fun e w'=>e=.returned (.int .u32 ((rotr x n).toNat:Int))∧w'=w:=by
 have hlt:(n:Int)<32:=by omega
 have E:=Lh (rotr_eq x n (by omega))
 go_enter Tryz.func109,Tryz.ntmps109
 go_wp2_with fail
 go_ret
 exact⟨congrArg (fun z=>Ending.returned (.int .u32 z)) (rr_val x n hn h0),rfl⟩
theorem rword_val (x0 x1 x2 x3:UInt8):((((x0.toNat:Int)*16777216 % 4294967296+(x1.toNat:Int)*65536 % 4294967296) % 4294967296+(x2.toNat:Int)*256 % 4294967296) % 4294967296+(x3.toNat:Int)) % 4294967296=((((x0.toUInt32 <<< 8 ||| x1.toUInt32) <<< 8 ||| x2.toUInt32) <<< 8 ||| x3.toUInt32).toNat:Int):=by
 have h0:=x0.toNat_lt
 have h1:=x1.toNat_lt
 have h2:=x2.toNat_lt
 have h3:=x3.toNat_lt
 have e1:(8:UInt32).toNat % 32=8:=rfl
 have or8:∀(a b:Nat),b<256→a*256 ||| b=a*256+b:=fun a b h=>by
  rw[show a*256=a <<< 8 by rw [Nat.shiftLeft_eq]]
  exact(Nat.shiftLeft_add_eq_or_of_lt (by omega) a).symm
 simp only [UInt32.toNat_or,UInt32.toNat_shiftLeft,UInt8.toNat_toUInt32,Nat.shiftLeft_eq,e1,Nat.reducePow]
 rw[Nat.mod_eq_of_lt (show x0.toNat*256<4294967296 by omega),or8 _ _ h1,Nat.mod_eq_of_lt (show(x0.toNat*256+x1.toNat)*256<4294967296 by omega),or8 _ _ h2,
  Nat.mod_eq_of_lt (show((x0.toNat*256+x1.toNat)*256+x2.toNat)*256<4294967296 by omega),or8 _ _ h3]
 omega
theorem word4_eq (b:List UInt8) (t:Nat):qJp b t 4=(((b.getD (4*t) 0).toUInt32 <<< 8 ||| (b.getD (4*t+1) 0).toUInt32) <<< 8 ||| (b.getD (4*t+2) 0).toUInt32) <<< 8 ||| (b.getD (4*t+3) 0).toUInt32:=by
 simp [qJp]
theorem u32_bits {a b:UInt32} (h:∀i:Nat,i<32→a.toNat.testBit i=b.toNat.testBit i):a=b:=by
 apply UInt32.toNat_inj.1
 apply Nat.eq_of_testBit_eq
 intro i
 by_cases hi:i<32
 ·exact h i hi
 ·have e:∀x:UInt32,x.toNat.testBit i=false:=fun x=>Nat.testBit_lt_two_pow (kQb x.toNat_lt (Nat.pow_le_pow_right (by omega) (by omega)))
  rw[e,e]
theorem ch_eq (e f g:UInt32):(e &&& f) ^^^ ((e ^^^ 4294967295) &&& g)=g ^^^ (e &&& (f ^^^ g)):=by
 apply u32_bits
 intro i hi
 have h1:Nat.testBit 4294967295 i=true:=by
  rw[show(4294967295:Nat)=2 ^ 32-1 from rfl,Nat.testBit_two_pow_sub_one];simpa using hi
 simp only [UInt32.toNat_xor,UInt32.toNat_and,Nat.testBit_xor,Nat.testBit_and,show(4294967295:UInt32).toNat=4294967295 from rfl,h1]
 cases e.toNat.testBit i<;>cases f.toNat.testBit i<;>cases g.toNat.testBit i<;>rfl
theorem mj_eq (a b c:UInt32):((a &&& b) ^^^ (a &&& c)) ^^^ (b &&& c)=(a &&& b) ||| (c &&& (a ||| b)):=by
 apply u32_bits
 intro i hi
 simp only [UInt32.toNat_xor,UInt32.toNat_and,UInt32.toNat_or,Nat.testBit_xor,Nat.testBit_and,Nat.testBit_or]
 cases a.toNat.testBit i<;>cases b.toNat.testBit i<;>cases c.toNat.testBit i<;>rfl
theorem next_eq (a b c d:UInt32):((a+b)+c)+d=((d+c)+b)+a:=by ac_rfl
theorem rk_any (w:World):Calls Tryz.prog 110 #[] w fun e w'=>∃g,e=.returned (.slice (some ⟨g,0,none⟩) 64 64)∧w.heap.size≤g∧w'.heap[g]?=some (.cells (W32 constL) 153 (0,0))∧Below w.heap.size w w':=by
 have Z:Hid (W32 constL=#[]++W32 constL):=by show _=_;simp
 go_enter Tryz.func110,Tryz.ntmps110
 go_wp2_with fail
 go_ret
 refine⟨w.heap.size,rfl,kQh _,qQk _ _ _ rfl,(Below.refl _ _).alloc (kQh _) _⟩
structure RbW (w:World) (s l:List UInt32) (W:World):Prop where
 bh:W.heap[w.heap.size]?=some (.cells (W32 s) 176 (0,0))
 br:W.heap[w.heap.size+1]?=some (.cells (W32 zero8L) 176 (0,0))
 bw:W.heap[w.heap.size+2]?=some (.cells (W32 l) 205 (0,0))
 bel:Below w.heap.size w W
theorem RbW.keep {w W W':World} {s l:List UInt32} (h:RbW w s l W) (hb:Below W.heap.size W W'):RbW w s l W' where
 bh:=qQb hb (qQe h.bh) h.bh
 br:=qQb hb (qQe h.br) h.br
 bw:=qQb hb (qQe h.bw) h.bw
 bel:=h.bel.trans (hb.mono h.bel.size)
theorem RbW.set {w W:World} {s l:List UInt32} (h:RbW w s l W) (i:Nat) (x:UInt32):RbW w s (l.set i x) (W.setCell ⟨w.heap.size+2,i,none⟩ (.int .u32 (x.toNat:Int))) where
 bh:=qQd (qQF (World.grownBy.refl _ _) _ _) (by simp) h.bh
 br:=qQd (qQF (World.grownBy.refl _ _) _ _) (by simp) h.br
 bw:=by rw [heap_setCell_same _ _ _ _ _ _ h.bw,qVD]
 bel:=h.bel.trans (qQi (qQF (World.grownBy.refl W (some (w.heap.size+2))) _ _) h.bel.size (by rintro g ⟨⟩;omega))
theorem rword_valW (x0 x1 x2 x3:UInt8):IntKind.u32.wrap (IntKind.u32.wrap (IntKind.u32.wrap (IntKind.u32.wrap (IntKind.u32.wrap (x0.toNat:Int)*16777216)+IntKind.u32.wrap (IntKind.u32.wrap (x1.toNat:Int)*65536))+IntKind.u32.wrap (IntKind.u32.wrap (x2.toNat:Int)*256))+IntKind.u32.wrap (x3.toNat:Int))=((((x0.toUInt32 <<< 8 ||| x1.toUInt32) <<< 8 ||| x2.toUInt32) <<< 8 ||| x3.toUInt32).toNat:Int):=by
 have h0:=x0.toNat_lt
 have h1:=x1.toNat_lt
 have h2:=x2.toNat_lt
 have h3:=x3.toNat_lt
 rw[←rword_val]
 simp only [IntKind.wrap_u32]
 omega
theorem next_valW (a b c d:UInt32):IntKind.u32.wrap (IntKind.u32.wrap (IntKind.u32.wrap ((a.toNat:Int)+(b.toNat:Int))+(c.toNat:Int))+(d.toNat:Int))=((d+c+b+a).toNat:Int):=by
 rw[←next_eq,IntKind.wrap_u32,IntKind.wrap_u32,IntKind.wrap_u32,qZY,qZY,qZY]
structure RvW (w:World) (h l v:List UInt32) (C V:Nat) (W:World):Prop where
 bh:W.heap[w.heap.size]?=some (.cells (W32 h) 176 (0,0))
 br:W.heap[w.heap.size+1]?=some (.cells (W32 zero8L) 176 (0,0))
 bw:W.heap[w.heap.size+2]?=some (.cells (W32 l) 205 (0,0))
 bc:W.heap[C]?=some (.cells (W32 constL) 153 (0,0))
 bv:W.heap[V]?=some (.cells (W32 v) 176 (0,0))
 hC:w.heap.size+2<C
 hV:C<V
 bel:Below w.heap.size w W
theorem RvW.keep {w W W':World} {h l v:List UInt32} {C V:Nat} (k:RvW w h l v C V W) (hb:Below W.heap.size W W'):RvW w h l v C V W' where
 bh:=qQb hb (qQe k.bh) k.bh
 br:=qQb hb (qQe k.br) k.br
 bw:=qQb hb (qQe k.bw) k.bw
 bc:=qQb hb (qQe k.bc) k.bc
 bv:=qQb hb (qQe k.bv) k.bv
 hC:=k.hC
 hV:=k.hV
 bel:=k.bel.trans (hb.mono k.bel.size)
theorem RvW.setv {w W W':World} {h l v v':List UInt32} {C V:Nat} (k:RvW w h l v C V W) (hb:W'.heap[V]?=some (.cells (W32 v') 176 (0,0))) (hg:W.grownBy W' (some V)):RvW w h l v' C V W' where
 bh:=qQd hg (by have:=k.hC;have:=k.hV;simp;omega) k.bh
 br:=qQd hg (by have:=k.hC;have:=k.hV;simp;omega) k.br
 bw:=qQd hg (by have:=k.hC;have:=k.hV;simp;omega) k.bw
 bc:=qQd hg (by have:=k.hV;simp;omega) k.bc
 bv:=hb
 hC:=k.hC
 hV:=k.hV
 bel:=k.bel.trans (qQi hg k.bel.size (by rintro g ⟨⟩;have:=k.hC;have:=k.hV;omega))
theorem RvW.seth {w W:World} {h l v:List UInt32} {C V:Nat} (k:RvW w h l v C V W) (i:Nat) (x:UInt32):RvW w (h.set i x) l v C V (W.setCell ⟨w.heap.size,i,none⟩ (.int .u32 (x.toNat:Int))) where
 bh:=by rw [heap_setCell_same _ _ _ _ _ _ k.bh,qVD]
 br:=qQd (qQF (World.grownBy.refl _ _) _ _) (by simp) k.br
 bw:=qQd (qQF (World.grownBy.refl _ _) _ _) (by simp) k.bw
 bc:=qQd (qQF (World.grownBy.refl _ _) _ _) (by have:=k.hC;simp;omega) k.bc
 bv:=qQd (qQF (World.grownBy.refl _ _) _ _) (by have:=k.hC;have:=k.hV;simp;omega) k.bv
 hC:=k.hC
 hV:=k.hV
 bel:=k.bel.trans (qQi (qQF (World.grownBy.refl W (some w.heap.size)) _ _) k.bel.size (by rintro g ⟨⟩;omega))
theorem chR_ex (e f g:UInt32):∃z:UInt32,Hid (z=g ^^^ (e &&& (f ^^^ g)))∧bits .xor .u32 (bits .and .u32 (e.toNat:Int) (f.toNat:Int)) (bits .and .u32 (bits .xor .u32 (e.toNat:Int) 4294967295) (g.toNat:Int))=(z.toNat:Int):=by
 refine⟨_,rfl,?_⟩
 have h:=qXf e 4294967295
 rw[show(((4294967295:UInt32).toNat:Nat):Int)=4294967295 from rfl]at h
 rw[h,qWn,qWn,qXf,ch_eq]
theorem mjR_ex (a b c:UInt32):∃z:UInt32,Hid (z=(a &&& b) ||| (c &&& (a ||| b)))∧bits .xor .u32 (bits .xor .u32 (bits .and .u32 (a.toNat:Int) (b.toNat:Int)) (bits .and .u32 (a.toNat:Int) (c.toNat:Int))) (bits .and .u32 (b.toNat:Int) (c.toNat:Int))=(z.toNat:Int):=by
 refine⟨_,rfl,?_⟩
 rw[qWn,qWn,qWn,qXf,qXf,mj_eq]
theorem sumM_ex (x y:UInt32):∃z:UInt32,Hid (z=x+y)∧((x.toNat:Int)+(y.toNat:Int)) % 4294967296=(z.toNat:Int):=⟨_,rfl,qZY _ _⟩
theorem rblock_any (s:List UInt32) (b:List UInt8) (hs:s.length=8) (hb:b.length=64) (w:World) :
  Calls Tryz.prog 97 #[.agg (W32 s),.string (strB b)] w fun e w'=>e=.returned (.agg (W32 (qYj s b)))∧Below w.heap.size w w':=by
 have HS:=Lh hs
 have HB:=Lh hb
 have Z8:=Lh (show(Tryz.prog.info? 176).map (·.size)=some 8 by kernel_rfl)
 obtain⟨S0,hS0⟩:∃S0,S0=W32 s:=⟨_,rfl⟩
 rw[←hS0]
 have S1:=Lh (show S0.all (·.oneCell')=true by rw [hS0];exact qZt _)
 have S2:=Lh (show S0.size=8 by rw [hS0,qQA,hs])
 have SE:=Lh hS0
 clear hs hb hS0
 obtain⟨j0,hj0,hj1,hj2,_⟩:=info_parts (show(Tryz.prog.info? 153).map (fun i=>(i.zero,i.size,i.bytes))=some (some (.int .u32 0),1,4) by kernel_rfl)
 have J0:=Lh hj0
 have J2:=Lh hj2
 clear hj0 hj1 hj2
 go_enter Tryz.func97,Tryz.ntmps97
 go_wp2_with fail
 refine qZ1 (fun W=>RbW w s (qQS b 0) W) ⟨?ba,?bb,?bc,?bd⟩ ?_
 case ba=>exact qQM _ _ _ (by simp;omega) (qQM _ _ _ (by simp) (qQk _ _ _ rfl)) |>.trans (by rw [SE.out])
 case bb=>exact qQM _ _ _ (by simp) (qQk _ _ _ (by simp))
 case bc=>exact qQk _ _ _ (by simp)
 case bd=>exact(((Below.refl _ _).alloc (kQh _) _).alloc (by simp) _).alloc (by simp;omega) _
 intro w1 h1
 have H1:=Lh h1
 clear h1
 go_loopw [6,7,8] (fun i _ _ wr=>∃t:Nat,t≤64∧i=.int .i64 (t:Int)∧RbW w s (qQS b t) wr) (fun i _ _ _=>64-(intOf i).toNat)
 case atStart=>exact⟨0,by omega,rfl,H1.out⟩
 case round=>
  obtain⟨t,ht,rfl,h2⟩:=hrel
  have H2:=Lh h2
  clear h2 H1 w1
  by_cases hlt:t<64
  ·have hD:decide ((t:Int)<64)=true:=by simp;omega
   by_cases h16:t<16
   ·have hE:decide ((t:Int)<16)=true:=by simp;omega
    have T16:=Lh h16
    have e0:Hid (IntKind.i64.wrap (4*(t:Int))=((4*t:Nat):Int)):=by show _=_;rw [IntKind.wrap_i64];omega
    have e1:Hid (IntKind.i64.wrap (IntKind.i64.wrap (4*(t:Int))+1)=((4*t+1:Nat):Int)):=by show _=_;rw [e0.out,IntKind.wrap_i64];omega
    have e2:Hid (IntKind.i64.wrap (IntKind.i64.wrap (4*(t:Int))+2)=((4*t+2:Nat):Int)):=by show _=_;rw [e0.out,IntKind.wrap_i64];omega
    have e3:Hid (IntKind.i64.wrap (IntKind.i64.wrap (4*(t:Int))+3)=((4*t+3:Nat):Int)):=by show _=_;rw [e0.out,IntKind.wrap_i64];omega
    obtain⟨x0,h0⟩:∃x,x=b.getD (4*t) 0:=⟨_,rfl⟩
    obtain⟨x1,h1⟩:∃x,x=b.getD (4*t+1) 0:=⟨_,rfl⟩
    obtain⟨x2,h2⟩:∃x,x=b.getD (4*t+2) 0:=⟨_,rfl⟩
    obtain⟨x3,h3⟩:∃x,x=b.getD (4*t+3) 0:=⟨_,rfl⟩
    have X:=Lh (word4_eq b t)
    rw[←h0,←h1,←h2,←h3]at X
    have D0:=Lh h0
    have D1:=Lh h1
    have D2:=Lh h2
    have D3:=Lh h3
    clear h0 h1 h2 h3 ht
    go_upto_region 6 with fail
    clear hlt hD h16 hE
    have H3:=Lh (H2.out.keep (Below.refl _ _).drew)
    have tb:(t:Int)<64:=by have:=T16.out;omega
    refine qZI (RbW w s (qQS b t)) 31 [(true,0),(true,1),(true,2),(true,3),(true,4),(true,5),(true,6),(true,7),(true,8),(true,9),(true,10),(true,11),(true,12),(true,13),(true,14),(true,15),(true,16),(true,17),(true,18),(true,19),(true,20),(true,21),(true,22),(true,23),(true,24),(true,25),(true,26),(true,27),(true,28),(true,29),(true,30)] _ (by kernel_rfl) (by kernel_rfl) rfl (fun _ _ d _ _ h=>by cases d<;>exact h) ?_
    simp only [kQl,kQm,kQd,kQg,kQe,kQo]
    refine qQB (by rfl) H3.out (fun W hW=>by go_simp;rfl) ?_
    simp only [Act.put,pq1,pq2,pq3]
    refine qQB (by rfl) H3.out (fun W hW=>by go_simp;rfl) ?_
    simp only [Act.put,pq1,pq2,pq3]
    refine qQB (by rfl) H3.out (fun W hW=>by go_simp;rfl) ?_
    simp only [Act.put,pq1,pq2,pq3]
    refine qQB (by rfl) H3.out (fun W hW=>by go_simp;rfl) ?_
    simp only [Act.put,pq1,pq2,pq3]
    refine qQB (by rfl) H3.out (fun W hW=>qQV 9 (.tmp 26) (.tmp 28) rfl Tryz.underlying9 b (4*t) x0 D0.out (by have:=HB.out;have:=T16.out;omega) .i64 _ e0.out rfl rfl W) ?_
    simp only [Act.put,pq1,pq2,pq3]
    refine qQB (by rfl) H3.out (fun W hW=>by go_simp;rfl) ?_
    simp only [Act.put,pq1,pq2,pq3]
    refine qQB (by rfl) H3.out (fun W hW=>by go_simp;rfl) ?_
    simp only [Act.put,pq1,pq2,pq3]
    refine qQB (by rfl) H3.out (fun W hW=>by go_simp;rfl) ?_
    simp only [Act.put,pq1,pq2,pq3]
    refine qQB (by rfl) H3.out (fun W hW=>by go_simp;rfl) ?_
    simp only [Act.put,pq1,pq2,pq3]
    refine qQB (by rfl) H3.out (fun W hW=>by go_simp;rfl) ?_
    simp only [Act.put,pq1,pq2,pq3]
    refine qQB (by rfl) H3.out (fun W hW=>by go_simp;rfl) ?_
    simp only [Act.put,pq1,pq2,pq3]
    refine qQB (by rfl) H3.out (fun W hW=>qQV 9 (.tmp 32) (.tmp 35) rfl Tryz.underlying9 b (4*t+1) x1 D1.out (by have:=HB.out;have:=T16.out;omega) .i64 _ e1.out rfl rfl W) ?_
    simp only [Act.put,pq1,pq2,pq3]
    refine qQB (by rfl) H3.out (fun W hW=>by go_simp;rfl) ?_
    simp only [Act.put,pq1,pq2,pq3]
    refine qQB (by rfl) H3.out (fun W hW=>by go_simp;rfl) ?_
    simp only [Act.put,pq1,pq2,pq3]
    refine qQB (by rfl) H3.out (fun W hW=>by go_simp;rfl) ?_
    simp only [Act.put,pq1,pq2,pq3]
    refine qQB (by rfl) H3.out (fun W hW=>by go_simp;rfl) ?_
    simp only [Act.put,pq1,pq2,pq3]
    refine qQB (by rfl) H3.out (fun W hW=>by go_simp;rfl) ?_
    simp only [Act.put,pq1,pq2,pq3]
    refine qQB (by rfl) H3.out (fun W hW=>by go_simp;rfl) ?_
    simp only [Act.put,pq1,pq2,pq3]
    refine qQB (by rfl) H3.out (fun W hW=>by go_simp;rfl) ?_
    simp only [Act.put,pq1,pq2,pq3]
    refine qQB (by rfl) H3.out (fun W hW=>qQV 9 (.tmp 40) (.tmp 43) rfl Tryz.underlying9 b (4*t+2) x2 D2.out (by have:=HB.out;have:=T16.out;omega) .i64 _ e2.out rfl rfl W) ?_
    simp only [Act.put,pq1,pq2,pq3]
    refine qQB (by rfl) H3.out (fun W hW=>by go_simp;rfl) ?_
    simp only [Act.put,pq1,pq2,pq3]
    refine qQB (by rfl) H3.out (fun W hW=>by go_simp;rfl) ?_
    simp only [Act.put,pq1,pq2,pq3]
    refine qQB (by rfl) H3.out (fun W hW=>by go_simp;rfl) ?_
    simp only [Act.put,pq1,pq2,pq3]
    refine qQB (by rfl) H3.out (fun W hW=>by go_simp;rfl) ?_
    simp only [Act.put,pq1,pq2,pq3]
    refine qQB (by rfl) H3.out (fun W hW=>by go_simp;rfl) ?_
    simp only [Act.put,pq1,pq2,pq3]
    refine qQB (by rfl) H3.out (fun W hW=>by go_simp;rfl) ?_
    simp only [Act.put,pq1,pq2,pq3]
    refine qQB (by rfl) H3.out (fun W hW=>by go_simp;rfl) ?_
    simp only [Act.put,pq1,pq2,pq3]
    refine qQB (by rfl) H3.out (fun W hW=>qQV 9 (.tmp 48) (.tmp 51) rfl Tryz.underlying9 b (4*t+3) x3 D3.out (by have:=HB.out;have:=T16.out;omega) .i64 _ e3.out rfl rfl W) ?_
    simp only [Act.put,pq1,pq2,pq3]
    refine qQB (by rfl) H3.out (fun W hW=>by go_simp;rfl) ?_
    simp only [Act.put,pq1,pq2,pq3]
    refine qQB (by rfl) H3.out (fun W hW=>by go_simp;rfl) ?_
    simp only [Act.put,pq1,pq2,pq3]
    refine qQB (by rfl) H3.out (fun W hW=>by go_simp;rfl) ?_
    simp only [Act.put,pq1,pq2,pq3]
    have f4:=qQz H3.out.bw t
    have a4:=qQg H3.out.bw t (qQZ _ t (by rw [qQ1];omega))
    refine qX8 (fun K hK=>?_)
    go_simp
    rw[rword_valW,←X.out]
    have H4:=Lh ((H2.out.set t (qJp b t 4)).keep (Below.refl _ _).drew)
    obtain⟨w4,hw4⟩:∃w4,w4=(wr.setCell ⟨w.heap.size+2,t,none⟩ (.int .u32 ((qJp b t 4).toNat:Int))).drew:=⟨_,rfl⟩
    change K _ (wr.setCell ⟨w.heap.size+2,t,none⟩ (.int .u32 ((qJp b t 4).toNat:Int))).drew
    rw[←hw4]
    have H5:Hid (RbW w s ((qQS b t).set t (qJp b t 4)) w4):=by rw [hw4];exact H4
    clear hw4 f4 a4 H4
    refine hK.out _ _ ?_
    clear hK K
    go_wp2_with fail
    go_roundw
    case rel=>exact⟨t+1,by have:=T16.out;omega,by go_num,by rw [qQS,if_pos T16.out];exact H5.out⟩
    case measure=>have:=T16.out;simp [intOf];omega
   ·have hE:decide ((t:Int)<16)=false:=by simp;omega
    have T16:=Lh (show 16≤t by omega)
    have T64:=Lh hlt
    obtain⟨xa,hxa⟩:∃x,x=(qQS b t).getD (t-15) 0:=⟨_,rfl⟩
    obtain⟨xb,hxb⟩:∃x,x=(qQS b t).getD (t-2) 0:=⟨_,rfl⟩
    obtain⟨xc,hxc⟩:∃x,x=(qQS b t).getD (t-16) 0:=⟨_,rfl⟩
    obtain⟨xd,hxd⟩:∃x,x=(qQS b t).getD (t-7) 0:=⟨_,rfl⟩
    have SL:=Lh (show(qQS b t).length=64 from qQ1 b t)
    have a1:=qQg H2.out.bw (t-15) (qQZ _ (t-15) (by rw [SL.out];omega))
    have a2:=qQg H2.out.bw (t-2) (qQZ _ (t-2) (by rw [SL.out];omega))
    rw[←hxa]at a1
    rw[←hxb]at a2
    have C3:=Lh (fun W (hW:RbW w s (qQS b t) W)=>(show W.cell? ⟨w.heap.size+2,t-16,none⟩=some (.int .u32 (xc.toNat:Int)) by
     have:=qQg hW.bw (t-16) (qQZ _ (t-16) (by rw [SL.out];omega));rwa [←hxc]at this))
    have C4:=Lh (fun W (hW:RbW w s (qQS b t) W)=>(show W.cell? ⟨w.heap.size+2,t-7,none⟩=some (.int .u32 (xd.toNat:Int)) by
     have:=qQg hW.bw (t-7) (qQZ _ (t-7) (by rw [SL.out];omega));rwa [←hxd]at this))
    have NX:=Lh (show nextL (qQS b t) t=xc+lowL xa+xd+highL xb by rw [nextL,←hxa,←hxb,←hxc,←hxd])
    have e7:Hid (IntKind.i64.wrap ((t:Int)-7)=((t-7:Nat):Int)):=by show _=_;rw [IntKind.wrap_i64];omega
    have e16:Hid (IntKind.i64.wrap ((t:Int)-16)=((t-16:Nat):Int)):=by show _=_;rw [IntKind.wrap_i64];omega
    clear hxa hxb hxc hxd ht
    go_upto_region 9 with fail
    clear hlt hD h16 hE a1 a2
    have H3:=Lh (H2.out.keep (Below.refl _ _).drew)
    refine qZI (RbW w s (qQS b t)) 29 [(true,0),(true,1),(true,3),(true,6),(true,7),(true,9),(true,10),(true,11),(true,12),(true,14),(true,16),(true,19),(true,20),(true,23),(true,24),(true,25),(true,26),(false,2),(false,4),(true,5),(true,8),(true,13),(false,15),(false,17),(true,18),(true,21),(true,22),(true,27),(true,28)] _ (by kernel_rfl) (by kernel_rfl) rfl (fun _ _ d _ _ h=>by cases d<;>exact h) ?_
    simp only [kQl,kQm,kQd,kQg,kQe,kQo]
    refine qQB (by rfl) H3.out (fun W hW=>by go_simp;rfl) ?_
    simp only [Act.put,pq1,pq2,pq3]
    refine qQB (by rfl) H3.out (fun W hW=>by go_simp;rfl) ?_
    simp only [Act.put,pq1,pq2,pq3]
    refine qQB (by rfl) H3.out (fun W hW=>by go_simp;rfl) ?_
    simp only [Act.put,pq1,pq2,pq3]
    refine qQB (by rfl) H3.out (fun W hW=>by go_simp;rfl) ?_
    simp only [Act.put,pq1,pq2,pq3]
    refine qQB (by rfl) H3.out (fun W hW=>by go_simp;rfl) ?_
    simp only [Act.put,pq1,pq2,pq3]
    refine qQB (by rfl) H3.out (fun W hW=>by go_simp;rfl) ?_
    simp only [Act.put,pq1,pq2,pq3]
    refine qQB (by rfl) H3.out (fun W hW=>by go_simp;rfl) ?_
    simp only [Act.put,pq1,pq2,pq3]
    refine qQB (by rfl) H3.out (fun W hW=>qXB 205 (.tmp 5) (.tmp 74) rfl 64 153 Tryz.underlying205 J0.out J2.out (w.heap.size+2) (t-7) (by have:=T64.out;omega) .i64 _ e7.out rfl rfl W) ?_
    simp only [Act.put,pq1,pq2,pq3]
    refine qQB (by rfl) H3.out (fun W hW=>qQq 153 (.tmp 75) rfl _ Tryz.underlying153 rfl rfl (C4.out W hW)) ?_
    simp only [Act.put,pq1,pq2,pq3]
    refine qQB (by rfl) H3.out (fun W hW=>by go_simp;rfl) ?_
    simp only [Act.put,pq1,pq2,pq3]
    refine qQB (by rfl) H3.out (fun W hW=>by go_simp;rfl) ?_
    simp only [Act.put,pq1,pq2,pq3]
    refine qQB (by rfl) H3.out (fun W hW=>by go_simp;rfl) ?_
    simp only [Act.put,pq1,pq2,pq3]
    refine qQB (by rfl) H3.out (fun W hW=>by go_simp;rfl) ?_
    simp only [Act.put,pq1,pq2,pq3]
    refine qQB (by rfl) H3.out (fun W hW=>by go_simp;rfl) ?_
    simp only [Act.put,pq1,pq2,pq3]
    refine qQB (by rfl) H3.out (fun W hW=>by go_simp;rfl) ?_
    simp only [Act.put,pq1,pq2,pq3]
    refine qQB (by rfl) H3.out (fun W hW=>qXB 205 (.tmp 5) (.tmp 88) rfl 64 153 Tryz.underlying205 J0.out J2.out (w.heap.size+2) (t-16) (by have:=T64.out;omega) .i64 _ e16.out rfl rfl W) ?_
    simp only [Act.put,pq1,pq2,pq3]
    refine qQB (by rfl) H3.out (fun W hW=>qQq 153 (.tmp 89) rfl _ Tryz.underlying153 rfl rfl (C3.out W hW)) ?_
    simp only [Act.put,pq1,pq2,pq3]
    refine qKc (by rfl) (fun K hK=>?_)
    go_simp
    refine(qZ6 xb 17 _ (by omega) (by omega)).mono ?_
    rintro e w' ⟨rfl,rfl⟩
    refine hK.out _ _ H3.out ?_
    clear hK K
    refine qKc (by rfl) (fun K hK=>?_)
    go_simp
    refine(qZ6 xb 19 _ (by omega) (by omega)).mono ?_
    rintro e w' ⟨rfl,rfl⟩
    refine hK.out _ _ H3.out ?_
    clear hK K
    obtain⟨hi,hhi,e2⟩:=high_ex xb
    refine qQB (by rfl) H3.out (fun W hW=>by go_simp;rfl) ?_
    simp only [Act.put,pq1,pq2,pq3]
    refine qQB (by rfl) H3.out (fun W hW=>by go_simp;rfl) ?_
    simp only [Act.put,pq1,pq2,pq3]
    refine qQB (by rfl) H3.out (fun W hW=>by go_simp;rfl) ?_
    simp only [Act.put,pq1,pq2,pq3]
    clear e2
    refine qKc (by rfl) (fun K hK=>?_)
    go_simp
    refine(qZ6 xa 7 _ (by omega) (by omega)).mono ?_
    rintro e w' ⟨rfl,rfl⟩
    refine hK.out _ _ H3.out ?_
    clear hK K
    refine qKc (by rfl) (fun K hK=>?_)
    go_simp
    refine(qZ6 xa 18 _ (by omega) (by omega)).mono ?_
    rintro e w' ⟨rfl,rfl⟩
    refine hK.out _ _ H3.out ?_
    clear hK K
    obtain⟨lo,hlo,e3⟩:=low_ex xa
    refine qQB (by rfl) H3.out (fun W hW=>by go_simp;rfl) ?_
    simp only [Act.put,pq1,pq2,pq3]
    refine qQB (by rfl) H3.out (fun W hW=>by go_simp;rfl) ?_
    simp only [Act.put,pq1,pq2,pq3]
    clear e3
    have tb:(t:Int)<64:=by have:=T64.out;omega
    refine qQB (by rfl) H3.out (fun W hW=>by go_simp;rfl) ?_
    simp only [Act.put,pq1,pq2,pq3]
    refine qQB (by rfl) H3.out (fun W hW=>by go_simp;rfl) ?_
    simp only [Act.put,pq1,pq2,pq3]
    refine qQB (by rfl) H3.out (fun W hW=>by go_simp;rfl) ?_
    simp only [Act.put,pq1,pq2,pq3]
    have f4:=qQz H3.out.bw t
    have a4:=qQg H3.out.bw t (qQZ _ t (by rw [qQ1];omega))
    refine qX8 (fun K hK=>?_)
    go_simp
    rw[next_valW,show xc+lo+xd+hi=nextL (qQS b t) t by rw [NX.out,hlo.out,hhi.out]]
    have H4:=Lh ((H2.out.set t (nextL (qQS b t) t)).keep (Below.refl _ _).drew)
    obtain⟨w4,hw4⟩:∃w4,w4=(wr.setCell ⟨w.heap.size+2,t,none⟩ (.int .u32 ((nextL (qQS b t) t).toNat:Int))).drew:=⟨_,rfl⟩
    change K _ (wr.setCell ⟨w.heap.size+2,t,none⟩ (.int .u32 ((nextL (qQS b t) t).toNat:Int))).drew
    rw[←hw4]
    have H5:Hid (RbW w s ((qQS b t).set t (nextL (qQS b t) t)) w4):=by rw [hw4];exact H4
    clear hw4 f4 a4 H4
    refine hK.out _ _ ?_
    clear hK K
    go_wp2_with fail
    go_roundw
    case rel=>exact⟨t+1,by have:=T64.out;omega,by go_num,by rw [qQS,if_neg (by have:=T16.out;omega)];exact H5.out⟩
    case measure=>have:=T64.out;simp [intOf];omega
  ·have ht64:Hid (t=64):=show t=64 by omega
   have hD:decide ((t:Int)<64)=false:=by simp;omega
   have H3:Hid (RbW w s (qQS b 64) wr):=by have:=H2.out;rw [ht64.out]at this;exact this
   clear H2 ht hlt
   obtain⟨sw,hsw⟩:∃sw,sw=qQS b 64:=⟨_,rfl⟩
   rw[←hsw]at H3
   have SW:=Lh hsw
   have LW:=Lh (show sw.length=64 by rw [hsw];exact qQ1 _ _)
   clear hsw
   go_wp2_with fail
   refine(rk_any _).mono ?_
   rintro e w2 ⟨C,rfl,hC,hcc,hb2⟩
   have H4:=Lh (H3.out.keep hb2)
   have CC:=Lh hcc
   have CG:=Lh (show w.heap.size+2<C by have:=qQe H3.out.bw;omega)
   have ZS:=Lh (show(Tryz.prog.info? 176).map (·.size)=some (W32 s).size by rw [qQA,HS.out];kernel_rfl)
   clear hC hcc hb2 H3
   go_upto_region 11 with fail
   go_wp2_with (first
    | (refine wpList_load_row rfl 176 (.tmp 2) rfl w.heap.size rfl 176 (W32 s) (0,0) _ H4.out.bh Tryz.underlying176 rfl ZS.out ?_)
    | (refine qQp rfl rfl 176 (.tmp 10) (.tmp 94) rfl (W32 s) rfl rfl ZS.out (by rw [qQA,HS.out];rfl) (qZt _) ?_))
   obtain⟨V,hV⟩:∃V,V=w2.heap.size:=⟨_,rfl⟩
   obtain⟨w3,hw3⟩:∃w3,w3=w2.alloc (.cells (W32 s) 176):=⟨_,rfl⟩
   have T5:=Lh (show RvW w s sw s C V w3 by
    rw[hw3]
    exact⟨qQM _ _ _ (qQe H4.out.bh) H4.out.bh,qQM _ _ _ (qQe H4.out.br) H4.out.br,qQM _ _ _ (qQe H4.out.bw) H4.out.bw,qQM _ _ _ (qQe CC.out) CC.out,qQk _ _ _ hV,CG.out,by rw [hV];exact qQe CC.out,H4.out.bel.alloc H4.out.bel.size _⟩)
   rw[←hw3,←hV]
   clear hw3 hV H4 CC CG ZS w2
   go_loopw [11,12,13,14,15,16,17] (fun i _ _ _ _ _ _ wr=>∃t:Nat,t≤64∧i=.int .i64 (t:Int)∧RvW w s sw (qWC constL sw s t) C V wr) (fun i _ _ _ _ _ _ _=>64-(intOf i).toNat)
   case atStart=>exact⟨0,by omega,rfl,T5.out⟩
   case round=>
    obtain⟨r,hr,rfl,h6⟩:=hrel
    have T6:=Lh h6
    clear h6 T5 w3 hD
    obtain⟨v,hv⟩:∃v,v=qWC constL sw s r:=⟨_,rfl⟩
    rw[←hv]at T6
    have VE:=Lh hv
    have VL:=Lh (show v.length=8 by rw [hv];exact qWB _ _ _ HS.out _)
    clear hv
    by_cases hlt:r<64
    ·have hD:decide ((r:Int)<64)=true:=by simp;omega
     have R64:=Lh hlt
     obtain⟨v0,d0⟩:∃x,x=v.getD 0 0:=⟨_,rfl⟩
     obtain⟨v1,d1⟩:∃x,x=v.getD 1 0:=⟨_,rfl⟩
     obtain⟨v2,d2⟩:∃x,x=v.getD 2 0:=⟨_,rfl⟩
     obtain⟨v3,d3⟩:∃x,x=v.getD 3 0:=⟨_,rfl⟩
     obtain⟨v4,d4⟩:∃x,x=v.getD 4 0:=⟨_,rfl⟩
     obtain⟨v5,d5⟩:∃x,x=v.getD 5 0:=⟨_,rfl⟩
     obtain⟨v6,d6⟩:∃x,x=v.getD 6 0:=⟨_,rfl⟩
     obtain⟨v7,d7⟩:∃x,x=v.getD 7 0:=⟨_,rfl⟩
     have D0:=Lh d0
     have D1:=Lh d1
     have D2:=Lh d2
     have D3:=Lh d3
     have D4:=Lh d4
     have D5:=Lh d5
     have D6:=Lh d6
     have D7:=Lh d7
     obtain⟨kt,hkt⟩:∃x,x=constL.getD r 0:=⟨_,rfl⟩
     obtain⟨wt,hwt⟩:∃x,x=sw.getD r 0:=⟨_,rfl⟩
     have KT:=Lh hkt
     have WT:=Lh hwt
     have CL:=Lh (fun(W:World) (hW:RvW w s sw v C V W) (i:Nat) (hi:i<8)=>qQg hW.bv i (qQZ v i (by rw [VL.out];exact hi)))
     have a0:=CL.out wr T6.out 0 (by omega)
     have a1:=CL.out wr T6.out 1 (by omega)
     have a2:=CL.out wr T6.out 2 (by omega)
     have a4:=CL.out wr T6.out 4 (by omega)
     have a5:=CL.out wr T6.out 5 (by omega)
     have a6:=CL.out wr T6.out 6 (by omega)
     rw[←d0]at a0
     rw[←d1]at a1
     rw[←d2]at a2
     rw[←d4]at a4
     rw[←d5]at a5
     rw[←d6]at a6
     clear d0 d1 d2 d3 d4 d5 d6 d7 hkt hwt hr
     obtain⟨ch,hch,e1⟩:=chR_ex v4 v5 v6
     obtain⟨mj,hmj,e2⟩:=mjR_ex v0 v1 v2
     go_upto_region 19 with fail
     clear a0 a1 a2 a4 a5 a6 e1 e2 hD hlt
     have T7:=Lh (T6.out.keep (Below.refl _ _).drew)
     have rb:(r:Int)<64:=by have:=R64.out;omega
     have C7:=Lh (fun(W:World) (hW:RvW w s sw v C V W)=>(show W.cell? ⟨V,7,none⟩=some (.int .u32 (v7.toNat:Int)) by have:=CL.out W hW 7 (by omega);rwa [←D7.out]at this))
     have CK:=Lh (fun(W:World) (hW:RvW w s sw v C V W)=>(show W.cell? ⟨C,0+r,none⟩=some (.int .u32 (kt.toNat:Int)) by have:=qQg hW.bc r (qQZ _ r (by rw [qJJ];omega));rw [←KT.out]at this;rw [Nat.zero_add];exact this))
     have CW:=Lh (fun(W:World) (hW:RvW w s sw v C V W)=>(show W.cell? ⟨w.heap.size+2,r,none⟩=some (.int .u32 (wt.toNat:Int)) by have:=qQg hW.bw r (qQZ _ r (by rw [LW.out];omega));rwa [←WT.out]at this))
     obtain⟨z0,hz0,e0⟩:=qYZ (rotr v4 6) (rotr v4 11) (rotr v4 25)
     obtain⟨z1,hz1,e1⟩:=qWW v7 z0
     obtain⟨z2,hz2,e2⟩:=qWW z1 ch
     obtain⟨z3,hz3,e3⟩:=qWW z2 kt
     obtain⟨x,hx,e4⟩:=qWW z3 wt
     refine qQu (RvW w s sw v C V) [(true,0),(true,1),(true,2),(true,4),(true,7),(true,11),(true,13),(true,14),(true,15),(true,16),(true,18),(true,19),(true,20),(false,3),(false,5),(true,6),(false,8),(true,9),(true,10),(true,12),(true,17),(true,21),(true,22)] (by kernel_rfl) (by kernel_rfl) (fun _ _ d _ _ h=>by cases d<;>exact h) ?_
     simp only [kQl,kQm,kQd,kQg,kQe,kQo]
     refine qQc (by rfl) T7.out (fun W hW=>qXB 176 (.tmp 10) (.const (.int .i64 7)) rfl 8 153 Tryz.underlying176 J0.out J2.out V 7 (by omega) .i64 _ rfl rfl rfl W) ?_
     simp only [Act.put,pq1,pq2,pq3]
     refine qQc (by rfl) T7.out (fun W hW=>qQq 153 (.tmp 128) rfl _ Tryz.underlying153 rfl rfl (C7.out W hW)) ?_
     simp only [Act.put,pq1,pq2,pq3]
     refine qQc (by rfl) T7.out (fun W hW=>by go_simp;rfl) ?_
     simp only [Act.put,pq1,pq2,pq3]
     refine qQc (by rfl) T7.out (fun W hW=>by go_simp;rfl) ?_
     simp only [Act.put,pq1,pq2,pq3]
     refine qQc (by rfl) T7.out (fun W hW=>by go_simp;rfl) ?_
     simp only [Act.put,pq1,pq2,pq3]
     refine qQc (by rfl) T7.out (fun W hW=>by go_simp;rfl) ?_
     simp only [Act.put,pq1,pq2,pq3]
     refine qQc (by rfl) T7.out (fun W hW=>by go_simp;rfl) ?_
     simp only [Act.put,pq1,pq2,pq3]
     refine qQc (by rfl) T7.out (fun W hW=>by go_simp;rfl) ?_
     simp only [Act.put,pq1,pq2,pq3]
     refine qQc (by rfl) T7.out (fun W hW=>qZU 207 (.tmp 141) (.tmp 142) rfl 153 Tryz.underlying207 J0.out J2.out C 0 64 64 r R64.out .i64 _ rfl rfl rfl W) ?_
     simp only [Act.put,pq1,pq2,pq3]
     refine qQc (by rfl) T7.out (fun W hW=>qQq 153 (.tmp 143) rfl _ Tryz.underlying153 rfl rfl (CK.out W hW)) ?_
     simp only [Act.put,pq1,pq2,pq3]
     refine qQc (by rfl) T7.out (fun W hW=>by go_simp;rfl) ?_
     simp only [Act.put,pq1,pq2,pq3]
     refine qQc (by rfl) T7.out (fun W hW=>qXB 205 (.tmp 5) (.tmp 146) rfl 64 153 Tryz.underlying205 J0.out J2.out (w.heap.size+2) r R64.out .i64 _ rfl rfl rfl W) ?_
     simp only [Act.put,pq1,pq2,pq3]
     refine qQc (by rfl) T7.out (fun W hW=>qQq 153 (.tmp 147) rfl _ Tryz.underlying153 rfl rfl (CW.out W hW)) ?_
     simp only [Act.put,pq1,pq2,pq3]
     refine qQE (by rfl) (fun K hK=>?_)
     go_simp
     refine(qZ6 v4 6 _ (by omega) (by omega)).mono ?_
     rintro e w' ⟨rfl,rfl⟩
     refine hK.out _ _ T7.out ?_
     clear hK K
     refine qQE (by rfl) (fun K hK=>?_)
     go_simp
     refine(qZ6 v4 11 _ (by omega) (by omega)).mono ?_
     rintro e w' ⟨rfl,rfl⟩
     refine hK.out _ _ T7.out ?_
     clear hK K
     refine qQc (by rfl) T7.out (fun W hW=>by go_simp;rfl) ?_
     simp only [Act.put,pq1,pq2,pq3]
     refine qQE (by rfl) (fun K hK=>?_)
     go_simp
     refine(qZ6 v4 25 _ (by omega) (by omega)).mono ?_
     rintro e w' ⟨rfl,rfl⟩
     refine hK.out _ _ T7.out ?_
     clear hK K
     refine qQc (by rfl) T7.out (fun W hW=>by go_simp;rfl) ?_
     simp only [Act.put,pq1,pq2,pq3]
     refine qQc (by rfl) T7.out (fun W hW=>by go_simp;rfl) ?_
     simp only [Act.put,pq1,pq2,pq3]
     refine qQc (by rfl) T7.out (fun W hW=>by go_simp;rfl) ?_
     simp only [Act.put,pq1,pq2,pq3]
     refine qQc (by rfl) T7.out (fun W hW=>by go_simp;rfl) ?_
     simp only [Act.put,pq1,pq2,pq3]
     refine qQc (by rfl) T7.out (fun W hW=>by go_simp;rfl) ?_
     simp only [Act.put,pq1,pq2,pq3]
     refine qQc (by rfl) T7.out (fun W hW=>by go_simp;rfl) ?_
     simp only [Act.put,pq1,pq2,pq3]
     refine qQG ?_
     clear e0 e1 e2 e3 e4
     obtain⟨w7,hw7⟩:∃w7,w7=wr.drew:=⟨_,rfl⟩
     rw[←hw7]at T7 ⊢
     clear hw7 T6 wr
     obtain⟨y0,hy0,e0⟩:=qYZ (rotr v0 2) (rotr v0 13) (rotr v0 22)
     obtain⟨y,hy,e1⟩:=sumM_ex y0 mj
     have E0:=Lh e0
     have E1:=Lh e1
     clear e0 e1
     go_wp2_with fail
     refine(qZ6 v0 2 _ (by omega) (by omega)).mono ?_
     rintro e w' ⟨rfl,rfl⟩
     go_wp2_with fail
     refine(qZ6 v0 13 _ (by omega) (by omega)).mono ?_
     rintro e w' ⟨rfl,rfl⟩
     go_wp2_with fail
     refine(qZ6 v0 22 _ (by omega) (by omega)).mono ?_
     rintro e w' ⟨rfl,rfl⟩
     have e0:=E0.out
     have e1:=E1.out
     go_upto_region 21 with fail
     rw[E1.out]
     clear e0 e1 E0 E1
     have a0:=CL.out w' T7.out 0 (by omega)
     have a1:=CL.out w' T7.out 1 (by omega)
     have a2:=CL.out w' T7.out 2 (by omega)
     have a3:=CL.out w' T7.out 3 (by omega)
     have a4:=CL.out w' T7.out 4 (by omega)
     have a5:=CL.out w' T7.out 5 (by omega)
     have a6:=CL.out w' T7.out 6 (by omega)
     rw[←D0.out]at a0
     rw[←D1.out]at a1
     rw[←D2.out]at a2
     rw[←D3.out]at a3
     rw[←D4.out]at a4
     rw[←D5.out]at a5
     rw[←D6.out]at a6
     obtain⟨n0,hn0,e0⟩:=sumM_ex x y
     obtain⟨n4,hn4,e4⟩:=sumM_ex v3 x
     have ZS:=Lh (show(Tryz.prog.info? 176).map (·.size)=some (W32 [n0,v0,v1,v2,n4,v4,v5,v6]).size by kernel_rfl)
     go_wp2_with (refine qQf rfl rfl 176 (.tmp 10) (.tmp 179) rfl V (W32 [n0,v0,v1,v2,n4,v4,v5,v6]) rfl rfl 176 (W32 v) T7.out.bv ZS.out (by rw [qQA,qQA,VL.out];rfl) (qZt _) ?_;intro w8 hz8 hg8 hs8)
     have T8:=Lh (T7.out.setv hz8 hg8)
     clear hz8 hg8 hs8 T7 a0 a1 a2 a3 a4 a5 a6
     go_roundw
     case rel=>
      refine⟨r+1,by have:=R64.out;omega,by go_num,?_⟩
      have hxL:xL kt wt v=x:=by
       unfold xL chL
       rw[←D4.out,←D5.out,←D6.out,←D7.out,←hch.out,←hz0.out,←hz1.out,←hz2.out,←hz3.out,←hx.out]
      have hyL:yL v=y:=by
       unfold yL mjL
       rw[←D0.out,←D1.out,←D2.out,←hmj.out,←hy0.out,←hy.out]
      rw[qWC,←VE.out,←KT.out,←WT.out,roundL,hxL,hyL,←D0.out,←D1.out,←D2.out,←D3.out,←D4.out,←D5.out,←D6.out,←hn0.out,←hn4.out]
      exact T8.out
     case measure=>have:=R64.out;simp [intOf];omega
    ·have hr64:Hid (r=64):=show r=64 by omega
     have hD:decide ((r:Int)<64)=false:=by simp;omega
     clear hlt hr
     go_wp2_with fail
     go_loopw [18] (fun i wr=>∃j:Nat,j≤8∧i=.int .i64 (j:Int)∧RvW w (sumK s v j) sw v C V wr) (fun i _=>8-(intOf i).toNat)
     case atStart=>exact⟨0,by omega,rfl,T6.out⟩
     case round=>
      clear hD
      obtain⟨j,hj,rfl,h8⟩:=hrel
      have T8:=Lh h8
      clear h8 T6
      obtain⟨h,hh⟩:∃h,h=sumK s v j:=⟨_,rfl⟩
      rw[←hh]at T8
      have HH:=Lh hh
      have HL:=Lh (show h.length=8 by rw [hh,qV8];exact HS.out)
      clear hh
      by_cases hlt:j<8
      ·have hD:decide ((j:Int)<8)=true:=by simp;omega
       have J8:=Lh hlt
       obtain⟨x,hx⟩:∃x,x=h.getD j 0:=⟨_,rfl⟩
       obtain⟨y,hy⟩:∃x,x=v.getD j 0:=⟨_,rfl⟩
       have CX:=Lh (fun(W:World) (hW:RvW w h sw v C V W)=>(show W.cell? ⟨w.heap.size,j,none⟩=some (.int .u32 (x.toNat:Int)) by have:=qQg hW.bh j (qQZ _ j (by rw [HL.out];exact hlt));rwa [←hx]at this))
       have CY:=Lh (fun(W:World) (hW:RvW w h sw v C V W)=>(show W.cell? ⟨V,j,none⟩=some (.int .u32 (y.toNat:Int)) by have:=qQg hW.bv j (qQZ _ j (by rw [VL.out];exact hlt));rwa [←hy]at this))
       have SK:=Lh (show sumK s v (j+1)=h.set j (x+y) by rw [sumK,←HH.out,hx,hy])
       clear hx hy
       go_upto_region 25 with fail
       have jb:(j:Int)<8:=by have:=J8.out;omega
       have T9:=Lh (T8.out.keep (Below.refl _ _).drew)
       clear hlt hD hj
       refine qZI (RvW w h sw v C V) 9 [(true,0),(true,1),(true,2),(true,3),(true,4),(true,5),(true,6),(true,7),(true,8)] _ (by kernel_rfl) (by kernel_rfl) rfl (fun _ _ d _ _ h=>by cases d<;>exact h) ?_
       simp only [kQl,kQm,kQd,kQg,kQe,kQo]
       refine qQB (by rfl) T9.out (fun W hW=>by go_simp;rfl) ?_
       simp only [Act.put,pq1,pq2,pq3]
       refine qQB (by rfl) T9.out (fun W hW=>by go_simp;rfl) ?_
       simp only [Act.put,pq1,pq2,pq3]
       refine qQB (by rfl) T9.out (fun W hW=>by go_simp;rfl) ?_
       simp only [Act.put,pq1,pq2,pq3]
       refine qQB (by rfl) T9.out (fun W hW=>qQq 153 (.tmp 186) rfl _ Tryz.underlying153 rfl rfl (CX.out W hW)) ?_
       simp only [Act.put,pq1,pq2,pq3]
       refine qQB (by rfl) T9.out (fun W hW=>by go_simp;rfl) ?_
       simp only [Act.put,pq1,pq2,pq3]
       refine qQB (by rfl) T9.out (fun W hW=>by go_simp;rfl) ?_
       simp only [Act.put,pq1,pq2,pq3]
       refine qQB (by rfl) T9.out (fun W hW=>qQq 153 (.tmp 189) rfl _ Tryz.underlying153 rfl rfl (CY.out W hW)) ?_
       simp only [Act.put,pq1,pq2,pq3]
       obtain⟨z,hz,e1⟩:=qWW x y
       refine qQB (by rfl) T9.out (fun W hW=>by go_simp;rfl) ?_
       simp only [Act.put,pq1,pq2,pq3]
       refine qQB (by rfl) T9.out (fun W hW=>by go_simp;rfl) ?_
       simp only [Act.put,pq1,pq2,pq3]
       have f4:=qQz T9.out.bh j
       have a4:=CX.out _ T9.out
       refine qX8 (fun K hK=>?_)
       go_simp
       have H4:=Lh ((T8.out.seth j z).keep (Below.refl _ _).drew)
       clear e1 f4 a4 T9
       obtain⟨w4,hw4⟩:∃w4,w4=(wr.setCell ⟨w.heap.size,j,none⟩ (.int .u32 (z.toNat:Int))).drew:=⟨_,rfl⟩
       rw[←hw4]at H4 ⊢
       clear hw4 T8
       refine hK.out _ _ ?_
       clear hK K
       go_wp2_with fail
       go_roundw
       case rel=>exact⟨j+1,by have:=J8.out;omega,by go_num,by rw [SK.out,←hz.out];exact H4.out⟩
       case measure=>have:=J8.out;simp [intOf];omega
      ·have hj8:Hid (j=8):=show j=8 by omega
       have hD:decide ((j:Int)<8)=false:=by simp;omega
       have HT:=Lh (show h=qYj s b by rw [HH.out,VE.out,hr64.out,hj8.out,SW.out,qYj])
       have ZS:=Lh (show(Tryz.prog.info? 176).map (·.size)=some (W32 h).size by rw [qQA,HL.out];kernel_rfl)
       clear hlt hj
       go_wp2_with (first
        | (refine wpList_load_row rfl 176 (.tmp 2) rfl w.heap.size rfl 176 (W32 h) (0,0) _ T8.out.bh Tryz.underlying176 rfl ZS.out ?_)
        | (refine qQf rfl rfl 176 (.tmp 4) (.tmp 193) rfl (w.heap.size+1) (W32 h) rfl rfl 176 (W32 zero8L) T8.out.br ZS.out (by rw [qQA,qQA,HL.out];rfl) (qZt _) ?_;intro w8 hz8 hg8 _))
       refine bodyPost_ret (results_cell_row rfl _ _ (w.heap.size+1) 176 (W32 h) (0,0) _ rfl hz8 Tryz.underlying176 rfl ZS.out) rfl ⟨?_,?_⟩
       ·rw [HT.out]
       ·exact T8.out.bel.trans (qQi hg8 T8.out.bel.size (by rintro g ⟨⟩;omega))
def padL (l:List UInt8):List UInt8:=l++tailL l.length
theorem qKU (l:List UInt8) (h:l.length≤3000):(padL l).length % 64=0∧(padL l).length≤3200:=by
 simp only [padL,tailL,kQj,List.length_cons,List.length_replicate,qWj,qXQ]
 omega
theorem beLs_get:∀(k x i:Nat),i<k→(beLs k x)[i]?=some (UInt8.ofNat (x/2 ^ (8*(k-1-i))))
 | 0,_,_,h=>by omega
 | k+1,x,0,_=>by simp [beLs]
 | k+1,x,i+1,h=>by
  rw[beLs,kQe,beLs_get k x i (by omega),show k+1-1-(i+1)=k-1-i by omega]
theorem zero8L_snoc (l:List UInt8) (j:Nat):(l++0x80::kQc j 0)++[0]=l++0x80::kQc (j+1) 0:=by
 rw[List.replicate_succ']
 simp
def sizeOfStr:Value→Nat
 | .string s=>s.size
 | _=>0
theorem rpadded_any (l:List UInt8) (n:Nat) (hn:l.length=n) (h:n≤3000) (w:World) :
  Calls Tryz.prog 96 #[.string (strB l)] w fun e w'=>e=.returned (.string (strB (padL l)))∧Below w.heap.size w w':=by
 have SZ:=qQH l
 rw[hn]at SZ
 have HN:=Lh hn
 have H:=Lh h
 have PE:=Lh (show padL l=(l++0x80::kQc (qXQ n) 0)++beLs 8 (n*8) by
  rw[padL,tailL,hn,Nat.mod_eq_of_lt (show n*8<18446744073709551616 by omega)];simp)
 clear hn
 go_enter Tryz.func96,Tryz.ntmps96
 go_upto_region 2 with fail
 clear SZ
 go_wp2_with (refine qQa rfl (qQW 9 _ (.tmp 9) (.const (.string { data:=#[128] })) rfl l [128] rfl rfl (by have:=HN.out;have:=H.out;simp;omega) _) ?_)
 go_loopw [0] (fun s wr=>∃j:Nat,j≤qXQ n∧s=.string (strB (l++0x80::kQc j 0))∧wr=w) (fun s _=>4000-sizeOfStr s)
 case atStart=>exact⟨0,by omega,rfl,rfl⟩
 case round=>
  obtain⟨j,hj,rfl,rfl⟩:=hrel
  have J:=Lh hj
  obtain⟨s0,hs⟩:∃s,s=l++0x80::kQc j 0:=⟨_,rfl⟩
  obtain⟨m,hm⟩:∃m,m=s0.length:=⟨_,rfl⟩
  have SS:=qQH s0
  rw[←hm]at SS
  rw[←hs]
  have M:=Lh (show m=n+1+j by rw [hm,hs];have:=HN.out;simp;omega)
  have M2:=Lh (show m≤3200 by have:=M.out;have:=H.out;unfold qXQ at hj;omega)
  have ME:=Lh hm
  have SE:=Lh hs
  clear hs hm hj
  by_cases h56:m % 64=56
  ·have hE:(((m:Nat):Int) % 64==56)=true:=by simp;omega
   have hE2:(((m:Nat):Int) % 64 != 56)=false:=by simp;omega
   have JZ:=Lh (show j=qXQ n by have:=J.out;have:=M.out;unfold qXQ at *;omega)
   obtain⟨x,hx⟩:∃x,x=n*8:=⟨_,rfl⟩
   have X:=Lh hx
   have e8:(n:Int)*8=(x:Int):=by omega
   go_wp2_with fail
   rw[e8]
   clear e8 hE hE2 SS h56 hx
   go_loopw [0,4] (fun s i wr'=>∃t:Nat,t≤8∧s=.string (strB (s0++(beLs 8 x).take t))∧i=.int .i64 (t:Int)∧Below wr.heap.size wr wr') (fun _ i _=>8-(intOf i).toNat)
   case atStart=>exact⟨0,by omega,by simp,rfl,Below.refl _ _⟩
   case round=>
    obtain⟨t,ht,rfl,rfl,hb⟩:=hrel
    by_cases h8:t<8
    ·have hD:decide ((t:Int)<8)=true:=by simp;omega
     have T8:=Lh h8
     obtain⟨r,hr⟩:∃r,r=7-t:=⟨_,rfl⟩
     have R:=Lh hr
     have e1:(56-8*(t:Int)).toNat=8*r:=by omega
     have e2:8*(r:Int)≤56:=by omega
     have e3:56-8*(t:Int)=8*(r:Int):=by omega
     have XB:=Lh (show x<18446744073709551616 by have:=X.out;have:=H.out;omega)
     obtain⟨z,hz,e4⟩:=qYU x r XB.out
     clear hr h8 ht
     have HL:=Lh (show(s0++(beLs 8 x).take t).length+1≤4611686018427387903 by have:=M2.out;have:=ME.out;rw [kQj,kQp,qWj];omega)
     have HB:=Lh (hb.alloc hb.size (.cells #[.int .u8 (z.toNat:Int)] 5))
     clear hb
     go_wp2_with (first
      | (refine qQa rfl (qZo 22 9 (.tmp 29) rfl Tryz.underlying22 Tryz.underlying5 Tryz.underlying9 (RdB.one (y:=z) (qQg (fr:=(0,0)) (qQk _ _ _ rfl) 0 rfl)) 1 1 rfl rfl) ?_)
      | (refine qQa rfl (qQW 9 _ (.tmp 21) (.tmp 30) rfl (s0++(beLs 8 x).take t) [z] rfl rfl HL.out _) ?_))
     go_roundw
     case rel=>
      refine⟨t+1,by have:=T8.out;omega,?_,by go_num,HB.out⟩
      congr 2
      rw[List.take_add_one,beLs_get 8 x t T8.out,hz.out,R.out]
      rfl
     case measure=>have:=T8.out;simp [intOf];omega
    ·have hD:decide ((t:Int)<8)=false:=by simp;omega
     have T8:Hid (t=8):=show t=8 by omega
     go_wp2_with fail
     go_ret
     refine⟨?_,hb⟩
     show Ending.returned (.string (strB (s0++(beLs 8 x).take t)))=_
     rw[T8.out,kQn (by rw [qWj];exact kQh _),PE.out,SE.out,X.out,JZ.out]
  ·have hE:(((m:Nat):Int) % 64==56)=false:=by simp;omega
   have hE2:(((m:Nat):Int) % 64 != 56)=true:=by simp;omega
   have JZ:=Lh (show j<qXQ n by have:=J.out;have:=M.out;unfold qXQ at *;omega)
   go_upto_region 4 with fail
   clear SS
   go_wp2_with (refine qQa rfl (qQW 9 _ (.tmp 15) (.const (.string { data:=#[0] })) rfl s0 [0] rfl rfl (by have:=M2.out;have:=ME.out;simp;omega) _) ?_)
   go_roundw
   case rel=>exact⟨j+1,by have:=JZ.out;omega,by rw [SE.out,zero8L_snoc],trivial⟩
   case measure=>simp [sizeOfStr,qQH];have:=M2.out;have:=ME.out;omega
def qWF (p:List UInt8) (k:Nat):List UInt32:=(qXz startH (p.take (64*k))).s
theorem wordsK_zero (p:List UInt8):qWF p 0=qVc:=by simp [qWF,qXz,startH]
theorem wordsK_succ (p:List UInt8) (k:Nat) (h:64*(k+1)≤p.length):qWF p (k+1)=qYj (qWF p k) ((p.drop (64*k)).take 64):=by
 unfold qWF
 rw[show 64*(k+1)=64*k+64 by omega,List.take_add,qXb,putsB_block _ (qWq startH_ok _) _ (by rw [qJc,kQp];simp [startH];omega) (by rw [kQp,kQv];omega)]
theorem qY2 (p:List UInt8) (k:Nat):(qWF p k).length=8:=(qWq startH_ok _).hs
theorem wordsK_all (l:List UInt8) (k:Nat) (h:64*k=(padL l).length):outL (qWF (padL l) k)=qZ8 l:=by
 unfold qWF
 rw[h,List.take_length,padL,qXb]
 unfold qZ8 sumH
 rw[qJc]
 simp [startH]
structure RmW (w:World) (h:List UInt32) (W:World):Prop where
 bo:W.heap[w.heap.size]?=some (.cells (W8 (kQc 32 0)) 37 (0,0))
 bh:W.heap[w.heap.size+1]?=some (.cells (W32 h) 176 (0,0))
 bel:Below w.heap.size w W
theorem RmW.keep {w W W':World} {h:List UInt32} (k:RmW w h W) (hb:Below W.heap.size W W'):RmW w h W' where
 bo:=qQb hb (qQe k.bo) k.bo
 bh:=qQb hb (qQe k.bh) k.bh
 bel:=k.bel.trans (hb.mono k.bel.size)
theorem RmW.seth {w W W':World} {h h':List UInt32} (k:RmW w h W) (hb:W'.heap[w.heap.size+1]?=some (.cells (W32 h') 176 (0,0))) (hg:W.grownBy W' (some (w.heap.size+1))):RmW w h' W' where
 bo:=qQd hg (by simp) k.bo
 bh:=hb
 bel:=k.bel.trans (qQi hg k.bel.size (by rintro g ⟨⟩;omega))
theorem rsum_any (l:List UInt8) (hl:l.length≤3000) (w:World) :
  Calls Tryz.prog 74 #[.string (strB l)] w fun e w'=>e=.returned (.agg (W8 (qZ8 l)))∧Below w.heap.size w w':=by
 have HL:=Lh hl
 clear hl
 obtain⟨BL,hBL⟩:∃BL,BL=W32 qVc:=⟨_,rfl⟩
 have B1:=Lh hBL
 have ZB:=Lh (show(Tryz.prog.info? 176).map (·.size)=some BL.size by rw [hBL];kernel_rfl)
 go_enter Tryz.func74,Tryz.ntmps74
 go_wp2_with (refine qQp rfl rfl 176 (.tmp 3) (.tmp 7) rfl BL (by rw [B1.out];rfl) rfl ZB.out (by rw [B1.out];rfl) (by rw [B1.out];exact qZt _) ?_)
 refine(rpadded_any l _ rfl HL.out _).mono ?_
 rintro e w1 ⟨rfl,hb1⟩
 have M1:=Lh (show RmW w (qWF (padL l) 0) w1 from RmW.keep ⟨qQM _ _ _ (by simp) (qQk _ _ _ rfl),(qQk _ _ _ (by simp)).trans (by rw [wordsK_zero];rfl),((Below.refl _ _).alloc (kQh _) _).alloc (by simp) _⟩ hb1)
 obtain⟨p,hp⟩:∃p,p=padL l:=⟨_,rfl⟩
 rw[←hp]at M1 ⊢
 obtain⟨n,hn⟩:∃n,n=p.length:=⟨_,rfl⟩
 obtain⟨K,hK⟩:∃K,64*K=n:=⟨n/64,by have:=qKU l HL.out;rw [←hp,←hn]at this;omega⟩
 have hs:=qQH p
 rw[←hn]at hs
 have PA:=Lh (show outL (qWF p K)=qZ8 l by rw [hp];exact wordsK_all l K (by rw [←hp,←hn];exact hK))
 have NE:=Lh (show p.length=n from hn.symm)
 have KE:=Lh hK
 have KB:=Lh (show n≤3200 by rw [hn,hp];exact(qKU l HL.out).2)
 clear hb1 hp hn hK
 go_wp2_with fail
 go_loopw [4] (fun i wr=>∃k:Nat,k≤K∧i=.int .i64 ((64*k:Nat):Int)∧RmW w (qWF p k) wr) (fun i _=>n-(intOf i).toNat)
 case atStart=>exact⟨0,by omega,rfl,M1.out⟩
 case round=>
  obtain⟨k,hk,rfl,h2⟩:=hrel
  have M2:=Lh h2
  clear h2 M1 w1
  obtain⟨z,hz⟩:∃z,z=64*k:=⟨_,rfl⟩
  rw[←hz]
  have Z:=Lh hz
  obtain⟨h,hh⟩:∃h,h=qWF p k:=⟨_,rfl⟩
  rw[←hh]at M2
  have HE:=Lh hh
  have HS:=Lh (show h.length=8 by rw [hh];exact qY2 _ _)
  have ZH:=Lh (show(Tryz.prog.info? 176).map (·.size)=some (W32 h).size by rw [qQA,HS.out];kernel_rfl)
  clear hz hh
  by_cases hlt:z<n
  ·have hD:decide ((z:Int)<(n:Int))=true:=by simp;omega
   have KL:=Lh (show k<K by have:=Z.out;have:=KE.out;omega)
   have Z2:=Lh (show z+64≤n by have:=Z.out;have:=KE.out;have:=KL.out;omega)
   have e4:IntKind.i64.wrap ((z:Int)+64)=((z+64:Nat):Int):=by have:=KB.out;have:=Z2.out;rw [IntKind.wrap_i64];omega
   have E4:=Lh e4
   clear e4
   go_upto_region 6 with fail
   have M3:=Lh (M2.out.keep (Below.refl _ _).drew)
   refine qZI (RmW w h) 7 [(true,0),(true,1),(true,2),(true,3),(true,4),(true,5),(false,6)] _ (by kernel_rfl) (by kernel_rfl) rfl (fun _ _ d _ _ h=>by cases d<;>exact h) ?_
   simp only [kQl,kQm,kQd,kQg,kQe,kQo]
   refine qQB (by rfl) M3.out (fun W hW=>qQj 176 (.tmp 3) rfl (w.heap.size+1) rfl 176 (W32 h) (0,0) _ hW.bh Tryz.underlying176 rfl ZH.out) ?_
   simp only [Act.put,pq1,pq2,pq3]
   refine qQB (by rfl) M3.out (fun W hW=>by go_simp;rfl) ?_
   simp only [Act.put,pq1,pq2,pq3]
   refine qQB (by rfl) M3.out (fun W hW=>by go_simp;rfl) ?_
   simp only [Act.put,pq1,pq2,pq3]
   refine qQB (by rfl) M3.out (fun W hW=>by go_simp;rfl) ?_
   simp only [Act.put,pq1,pq2,pq3]
   refine qQB (by rfl) M3.out (fun W hW=>by go_simp;rfl) ?_
   simp only [Act.put,pq1,pq2,pq3]
   refine qQB (by rfl) M3.out (fun W hW=>qWa 9 (.tmp 17) (.tmp 18) (.tmp 20) rfl Tryz.underlying9 p z (z+64) (by omega) (by have:=Z2.out;have:=NE.out;omega) rfl .i64 .i64 _ _ rfl E4.out rfl rfl W) ?_
   simp only [Act.put,pq1,pq2,pq3]
   refine qKc (by rfl) (fun K hK=>?_)
   go_simp
   obtain⟨c,hc⟩:∃c,c=(p.drop z).take 64:=⟨_,rfl⟩
   rw[←hc]
   have CL:=Lh (show c.length=64 by have:=Z2.out;have:=NE.out;rw [hc,kQp,kQv];omega)
   have SK:=Lh (show qWF p (k+1)=qYj h c by have:=Z2.out;have:=NE.out;rw [wordsK_succ p k (by have:=Z.out;omega),HE.out,hc,Z.out])
   clear hc
   refine(rblock_any h c HS.out CL.out _).mono ?_
   rintro e w4 ⟨rfl,hb4⟩
   have M4:=Lh (M3.out.keep hb4)
   clear hb4 M3 M2
   obtain⟨h4,hh4⟩:∃h4,h4=qYj h c:=⟨_,rfl⟩
   rw[←hh4]at SK ⊢
   have L4:=Lh (show h4.length=8 by rw [hh4,qKd];exact HS.out)
   clear hh4
   refine hK.out _ _ M4.out ?_
   clear hK K
   refine qX8 (fun K hK=>?_)
   refine qQN 176 (.tmp 3) (.tmp 22) rfl (w.heap.size+1) (W32 h4) rfl rfl _ _ M4.out.bh (by rw [qQA,L4.out];kernel_rfl) (by rw [qQA,qQA,L4.out,HS.out]) (qZt _) ?_
   intro w5 hz5 hg5 hs5
   have M5:=Lh (M4.out.seth hz5 hg5)
   clear hz5 hg5 hs5 M4
   refine hK.out _ _ ?_
   clear hK K
   have zb:(z:Int)≤3200:=by have:=KB.out;omega
   go_wp2_with fail
   go_roundw
   case rel=>exact⟨k+1,by have:=KL.out;omega,by have:=Z.out;go_num,by rw [SK.out];exact M5.out⟩
   case measure=>simp [intOf]<;>omega
  ·have hD:decide ((z:Int)<(n:Int))=false:=by simp;omega
   have KK:=Lh (show k=K by have:=Z.out;have:=KE.out;omega)
   obtain⟨L,hL⟩:∃L,L=outL h:=⟨_,rfl⟩
   have LL:=Lh (show L.length=32 by rw [hL,qW3])
   have LE:=Lh hL
   have LF:=Lh (show L=qZ8 l by rw [hL,HE.out,KK.out];exact PA.out)
   clear hL hk
   go_upto_region 8 with fail
   rw[←qJn]
   obtain⟨M,hM⟩:∃M,M=wr.heap.size:=⟨_,rfl⟩
   have MG:=Lh (show w.heap.size+1<M by rw [hM];exact qQe M2.out.bh)
   obtain⟨w3,hw3⟩:∃w3,w3=wr.alloc (.cells (W8 (kQc 32 0)) 37):=⟨_,rfl⟩
   have M3:=Lh (show RmW w h w3 by rw [hw3];exact M2.out.keep ((Below.refl _ _).alloc (kQh _) _))
   have O3:=Lh (show w3.heap[M]?=some (.cells (W8 (qXF L 0)) 37 (0,0)) by rw [hw3,qX3,LL.out];exact qQk _ _ _ hM)
   rw[←hw3,←hM]
   clear hw3 hM M2 hD hlt
   go_wp2_with fail
   go_loopw [6] (fun i wr=>∃j:Nat,j≤32∧i=.int .i64 (j:Int)∧RmW w h wr∧wr.heap[M]?=some (.cells (W8 (qXF L j)) 37 (0,0))) (fun i _=>32-(intOf i).toNat)
   case atStart=>exact⟨0,by omega,rfl,M3.out,O3.out⟩
   case round=>
    obtain⟨j,hj,rfl,h4,o4⟩:=hrel
    have M4:=Lh h4
    have O4:=Lh o4
    clear h4 o4 M3 O3
    by_cases hlt:j<32
    ·have hD:decide ((j:Int)<32)=true:=by simp;omega
     have J:=Lh hlt
     obtain⟨x,hx⟩:∃x,x=h.getD (j/4) 0:=⟨_,rfl⟩
     have a1:=qQg M4.out.bh (j/4) (qQZ _ (j/4) (by rw [HS.out];omega))
     rw[←hx]at a1
     have a2:=qQg O4.out j (qZ4 _ j (by rw [qZV,LL.out];exact hlt))
     have f2:=qQz O4.out j
     have X:=Lh hx
     have e1:((j:Int)/4).toNat=j/4:=by omega
     have e2:(24-8*((j:Int) % 4)).toNat=8*(3-j % 4):=by omega
     clear hx
     go_wp2_with fail
     rw[shr_out x (8*(3-j % 4)) (by omega)]
     obtain⟨w3,hw3⟩:∃w3,w3=wr.setCell ⟨M,j,none⟩ (.int .u8 ((x >>> UInt32.ofNat (8*(3-j % 4))).toUInt8.toNat:Int)):=⟨_,rfl⟩
     rw[←hw3]
     have hx2:(x >>> UInt32.ofNat (8*(3-j % 4))).toUInt8=L.getD j 0:=by
      rw[LE.out,outL,kQa,List.getElem?_map,List.getElem?_range hlt,X.out]
      rfl
     have M9:w3.heap[M]?=some (.cells (W8 (qXF L (j+1))) 37 (0,0)):=by
      rw[hw3,heap_setCell_same _ _ _ _ _ _ O4.out,qYX,hx2,qWN _ _ (by rw [LL.out];exact hlt)]
     have S9:RmW w h w3:=by
      have hgr:wr.grownBy w3 (some M):=by rw [hw3];exact qQF (World.grownBy.refl _ _) _ _
      have h1:=MG.out
      exact⟨qQd hgr (by simp;omega) M4.out.bo,qQd hgr (by simp;omega) M4.out.bh,M4.out.bel.trans (qQi hgr M4.out.bel.size (by intro g e;cases e;omega))⟩
     clear hw3
     go_roundw
     case rel=>exact⟨j+1,by have:=J.out;omega,by go_num,S9,M9⟩
     case measure=>have:=J.out;simp [intOf];omega
    ·have hj32:Hid (j=32):=show j=32 by omega
     have hD:decide ((j:Int)<32)=false:=by simp;omega
     have OF:=Lh (show wr.heap[M]?=some (.cells (W8 L) 37 (0,0)) by have:=O4.out;rw [hj32.out]at this;rw [←LL.out,qX4]at this;exact this)
     have ZS:=Lh (show(Tryz.prog.info? 37).map (·.size)=some (W8 L).size by rw [qQw,LL.out];kernel_rfl)
     clear hlt hj
     go_wp2_with (first
      | (refine wpList_load_row rfl 37 (.tmp 5) rfl M rfl 37 (W8 L) (0,0) _ OF.out Tryz.underlying37 rfl ZS.out ?_)
      | (refine qQf rfl rfl 37 (.tmp 2) (.tmp 40) rfl w.heap.size (W8 L) rfl rfl 37 (W8 (kQc 32 0)) M4.out.bo ZS.out (by rw [qQw,qQw,LL.out];rfl) (qZg _) ?_;intro w8 hz8 hg8 _))
     refine bodyPost_ret (results_cell_row rfl _ _ w.heap.size 37 (W8 L) (0,0) _ rfl hz8 Tryz.underlying37 rfl ZS.out) rfl ⟨?_,?_⟩
     ·rw [LF.out]
     ·exact M4.out.bel.trans (qQi hg8 M4.out.bel.size (by rintro g ⟨⟩;omega))
theorem byte_of (y:Nat):∃z:UInt8,Hid (z=UInt8.ofNat y)∧IntKind.u8.wrap (y:Int)=(z.toNat:Int):=by
 refine⟨_,rfl,?_⟩
 rw[IntKind.wrap_u8]
 simp
theorem rput_any (b:List UInt8) (x:UInt64) (k:Int) (hk : -9223372036854775808≤k∧k≤9223372036854775807) (hb:b.length≤4611686018427387000) (w:World) :
  Calls Tryz.prog 54 #[.string (strB b),.int .u64 (x.toNat:Int),.int .i64 k] w fun e w'=>e=.returned (.string (strB (b++beL (putN k) x.toNat)))∧Below w.heap.size w w':=by
 have HB:=Lh hb
 clear hb
 go_enter Tryz.func54,Tryz.ntmps54
 by_cases h1:k<1
 ·have hD:decide (k<(1:Int))=true:=by simp;omega
  have P0:=Lh (show putN k=0 by unfold putN;omega)
  go_wp2_with fail
  go_ret
  exact⟨by rw [P0.out,beL,List.append_nil];rfl,Below.refl _ _⟩
 ·have hD:decide (k<(1:Int))=false:=by simp;omega
  obtain⟨m,hm⟩:∃m,m=putN k:=⟨_,rfl⟩
  rw[←hm]
  have M8:=Lh (show m≤8 by rw [hm];unfold putN;omega)
  go_upto_if 13 with fail
  go_cut [2] (fun u wx=>u=.int .i64 (m:Int)∧wx=w)
  case first=>
   by_cases h8:8<k
   ·have hE:decide ((8:Int)<k)=true:=by simp;omega
    go_wp2_with fail
    go_meet
    exact⟨by rw [hm];unfold putN;congr 1;omega,rfl⟩
   ·have hE:decide ((8:Int)<k)=false:=by simp;omega
    go_wp2_with fail
    go_meet
    exact⟨by rw [hm];unfold putN;congr 1;omega,rfl⟩
  case rest=>
  obtain⟨rfl,hwx⟩:=hcut
  rw[hwx]
  clear hwx hm h1 hD hk
  have mb:(m:Int)≤8:=by have:=M8.out;omega
  go_wp2_with fail
  go_loopw [1,7,8] (fun v s i wr=>∃j:Nat,j≤m∧v=.int .u64 ((x.toNat/2 ^ (8*j):Nat):Int)∧s=.string (strB (beL j x.toNat))∧i=.int .i64 (j:Int)∧Below w.heap.size w wr) (fun _ _ i _=>8-(intOf i).toNat)
  case atStart=>exact⟨0,by omega,by simp,rfl,rfl,Below.refl _ _⟩
  case round=>
   obtain⟨j,hj,rfl,rfl,rfl,hbel⟩:=hrel
   have J:=Lh hj
   have S:=Lh hbel
   obtain⟨y,hy⟩:∃y,y=x.toNat/2 ^ (8*j):=⟨_,rfl⟩
   rw[←hy]
   have Y:=Lh hy
   have Y64:=Lh (show y<18446744073709551616 by have:=x.toNat_lt;rw [hy];exact Nat.lt_of_le_of_lt (Nat.div_le_self _ _) (by omega))
   have L:=Lh (qZj j x.toNat)
   obtain⟨s,hs⟩:∃s,s=beL j x.toNat:=⟨_,rfl⟩
   rw[←hs]at L ⊢
   have SE:=Lh hs
   clear hy hbel hs
   by_cases hlt:j<m
   ·have hD:decide ((j:Int)<(m:Int))=true:=by simp;omega
    obtain⟨z,hz,e1⟩:=byte_of y
    have yb:(y:Int)<18446744073709551616:=by have:=Y64.out;omega
    have HBZ:=Lh (S.out.alloc S.out.size (.cells #[.int .u8 (z.toNat:Int)] 5))
    go_wp2_with (first
     | (refine qQa rfl (qZo 22 9 (.tmp 21) rfl Tryz.underlying22 Tryz.underlying5 Tryz.underlying9 (RdB.one (y:=z) (qQg (fr:=(0,0)) (qQk _ _ _ rfl) 0 rfl)) 1 1 rfl rfl) ?_)
     | (refine qQa rfl (qQW 9 _ (.tmp 22) (.tmp 23) rfl [z] s rfl rfl (by have:=L.out;have:=J.out;have:=M8.out;simp;omega) _) ?_))
    go_roundw
    case rel=>
     refine⟨j+1,by omega,?_,by rw [beL,SE.out,hz.out,Y.out],by go_num,HBZ.out⟩
     congr 1
     have e:x.toNat/2 ^ (8*(j+1))=y/256:=by rw [Y.out,Nat.div_div_eq_div_mul,show 8*(j+1)=8*j+8 by omega,Nat.pow_add]
     rw[e]
     first|omega|go_num
    case measure=>have:=M8.out;simp [intOf];omega
   ·have hD:decide ((j:Int)<(m:Int))=false:=by simp;omega
    have JE:=Lh (show j=m by have:=J.out;omega)
    go_wp2_with (refine qQa rfl (qQW 9 _ (.tmp 27) (.tmp 28) rfl b s rfl rfl (by have:=L.out;have:=J.out;have:=M8.out;have:=HB.out;omega) _) ?_)
    go_ret
    exact⟨by rw [SE.out,JE.out];rfl,S.out⟩
theorem putN_8b:putN 8=8:=rfl
def bLen:Value→Nat
 | .string s=>s.size
 | _=>0
theorem tellS_mid (F:List UInt8) (u m:Nat) (h:u+m≤F.length):qQR F u m=(F.drop u).take m:=by
 apply List.ext_getElem
 ·rw [qQy,kQp,kQv];omega
 ·intro i h1 h2
  rw[qQy]at h1
  simp only [qQR,List.getElem_map,List.getElem_range,List.getElem_take,List.getElem_drop]
  rw[qJ8,if_pos (by omega)]
  simp [kQa,show u+i<F.length by omega]
theorem tellS_take (F:List UInt8) (u m k:Nat) (h:k≤m):(qQR F u m).take k=qQR F u k:=by
 obtain⟨c,rfl⟩:∃c,m=k+c:=⟨m-k,by omega⟩
 rw[tellS_add,List.take_append_of_le_length (by rw [qQy];exact kQh _),kQn (by rw [qQy];exact kQh _)]
theorem tellS_tail (F:List UInt8) (d:Nat):qQR F (F.length+d) (32-d % 32)=(qZ8 (qZ8 F++beL 8 (d/32))).drop (d % 32):=by
 apply List.ext_getElem
 ·rw [qQy,kQv,qZW]
 ·intro i h1 h2
  rw[qQy]at h1
  have hl:i+d % 32<32:=by omega
  simp only [qQR,List.getElem_map,List.getElem_range,List.getElem_drop]
  rw[qJ8,if_neg (by omega),show F.length+d+i-F.length=d+i by omega,show(d+i)/32=d/32 by omega,show(d+i) % 32=d % 32+i by omega]
  simp [kQa,qZW,show d % 32+i<32 by omega]
theorem rbytes_any (F:List UInt8) (n:Nat) (hn:F.length=n) (hb:n≤2900) (u:Nat) (hu:u≤1000000) (k:Nat) (hk:k≤70000) (w:World) :
  Calls Tryz.prog 53 #[.string (strB F),.int .i64 (u:Int),.int .i64 (k:Int)] w fun e w'=>e=.returned (.string (strB (qQR F u k)))∧Below w.heap.size w w':=by
 have SZ:=qQH F
 rw[hn]at SZ
 have HN:=Lh hn
 have HB:=Lh hb
 have HK:=Lh hk
 have HU:=Lh hu
 have ub:(u:Int)≤1000000:=by omega
 have nb:(n:Int)≤2900:=by omega
 have kb:(k:Int)≤70000:=by omega
 have e1:(if (k:Int)<0 then(0:Int)else(k:Int))=(k:Int):=by split<;>omega
 obtain⟨R,hR⟩:∃R,R=qQR F u k:=⟨_,rfl⟩
 have RE:=Lh hR
 rw[←hR]
 obtain⟨S,hS⟩:∃S,S=qZ8 F:=⟨_,rfl⟩
 have SE:=Lh hS
 have SL:=Lh (show S.length=32 by rw [hS,qZW])
 have ZS:=Lh (show(Tryz.prog.info? 37).map (·.size)=some (W8 S).size by rw [qQw,SL.out];kernel_rfl)
 obtain⟨i0,hi0,hz0,hz1,hz2⟩:=info_parts (show(Tryz.prog.info? 5).map (fun i=>(i.zero,i.size,i.bytes))=some (some (.int .u8 0),1,1) by kernel_rfl)
 have I0:=Lh hi0
 have I1:=Lh hz1
 clear hn hb hk hu hR hS hi0 hz0 hz1 hz2
 go_enter Tryz.func53,Tryz.ntmps53
 go_upto_if 14 with fail
 go_cut [7] (fun v wx=>(∃m,m≤k∧v=.string (strB (qQR F u m))∧(m<k→n≤u+m))∧wx=w)
 case first=>
  by_cases hlt:u<n
  ·have hD:decide ((u:Int)<(n:Int))=true:=by simp;omega
   obtain⟨j,hj⟩:∃j,j=min n (u+k):=⟨_,rfl⟩
   have J:=Lh (show u≤j∧j≤n∧j≤u+k∧(j<u+k→j=n) by omega)
   have e2:(if (u:Int)+(k:Int)<(n:Int)then(u:Int)+(k:Int)else(n:Int))=(j:Int):=by split<;>omega
   clear hj
   go_wp2_with (refine qQa rfl (qWa 9 (.tmp 15) (.tmp 16) (.tmp 23) rfl Tryz.underlying9 F u j J.out.1 (by rw [HN.out];exact J.out.2.1) rfl .i64 .i64 _ _ rfl rfl rfl rfl _) ?_)
   go_meet
   refine⟨⟨j-u,by have:=J.out;omega,?_,fun h=>by have:=J.out;omega⟩,rfl⟩
   rw[tellS_mid F u (j-u) (by rw [HN.out];have:=J.out;omega)]
  ·have hD:decide ((u:Int)<(n:Int))=false:=by simp;omega
   go_wp2_with fail
   go_meet
   exact⟨⟨0,by omega,rfl,fun h=>by omega⟩,rfl⟩
 case rest=>
 obtain⟨⟨m0,hm0,rfl,hm1⟩,hwx⟩:=hcut
 rw[hwx]
 have M0:=Lh hm0
 have M1:=Lh hm1
 clear hwx hm0 hm1
 go_wp2_with fail
 refine(rsum_any F (by rw [HN.out];have:=HB.out;omega) _).mono ?_
 rw[←SE.out]
 rintro e w1 ⟨rfl,hb1⟩
 have B:=Lh hb1
 clear hb1
 go_upto_region 5 with (refine qQp rfl rfl 37 (.tmp 8) (.tmp 26) rfl (W8 S) rfl rfl ZS.out ?c1 (qZg _) ?_)
 case c1=>rw [qQw,SL.out];rfl
 obtain⟨M,hM⟩:∃M,M=w1.heap.size:=⟨_,rfl⟩
 obtain⟨w2,hw2⟩:∃w2,w2=w1.alloc (.cells (W8 S) 37):=⟨_,rfl⟩
 have R2:=Lh (show w2.heap[M]?=some (.cells (W8 S) 37 (0,0)) by rw [hw2];exact qQk _ _ _ hM)
 have B:=Lh (show Below w.heap.size w w2 by rw [hw2];exact B.out.alloc B.out.size _)
 rw[←hw2,←hM]
 clear hw2 hM
 go_loopw [7] (fun v wr=>∃m X,X=qQR F u m∧v=.string (strB X)∧m≤k+32∧(m<k→n≤u+m)∧wr.heap[M]?=some (.cells (W8 S) 37 (0,0))∧Below w.heap.size w wr) (fun v _=>k-bLen v)
 case atStart=>exact⟨m0,_,rfl,rfl,by have:=M0.out;omega,M1.out,R2.out,B.out⟩
 case round=>
  obtain⟨m,X,hX,rfl,hm,hmn,hr,hbb⟩:=hrel
  have XE:=Lh hX
  have XL:=Lh (show X.length=m by rw [hX,qQy])
  have MK:=Lh hm
  have MN:=Lh hmn
  have R2:=Lh hr
  have B:=Lh hbb
  have SX:=qQH X
  rw[XL.out]at SX
  have mb:(m:Int)≤70032:=by have:=HK.out;omega
  clear hX hm hmn hr hbb
  by_cases hlt:m<k
  ·have hD:decide ((m:Int)<(k:Int))=true:=by simp;omega
   have LT:=Lh hlt
   obtain⟨d,hd⟩:∃d,u+m=n+d:=⟨u+m-n,by have:=MN.out hlt;omega⟩
   have eD:(u:Int)+(m:Int)-(n:Int)=(d:Int):=by omega
   have DE:=Lh hd
   obtain⟨x,hx⟩:∃x:UInt64,x.toNat=d/32:=⟨UInt64.ofNat (d/32),by have:=HU.out;have:=HK.out;simp;omega⟩
   obtain⟨r,hr⟩:∃r,r=d % 32:=⟨_,rfl⟩
   have R:=Lh hr
   have XN:=Lh hx
   have R32:=Lh (show r<32 by omega)
   have db:(d:Int)≤1100000:=by have:=HU.out;have:=HK.out;omega
   have e3:(d:Int).tdiv 32=(x.toNat:Int):=by rw [Int.tdiv_eq_ediv_of_nonneg (by omega),hx];omega
   have e2:(d:Int).tmod 32=(r:Int):=by rw [Int.tmod_eq_emod_of_nonneg (by omega)];omega
   have xb:(x.toNat:Int)≤1100000:=by omega
   have rb:(r:Int)<32:=by omega
   obtain⟨T,hT⟩:∃T,T=qZ8 (S++beL 8 x.toNat):=⟨_,rfl⟩
   have TE:=Lh hT
   have TL:=Lh (show T.length=32 by rw [hT,qZW])
   have ZT:=Lh (show(Tryz.prog.info? 37).map (·.size)=some (W8 T).size by rw [qQw,TL.out];kernel_rfl)
   have NX:=Lh (show X++T.drop r=qQR F u (m+(32-r)) by
    rw[tellS_add,←XE.out,DE.out,←HN.out,hr,tellS_tail,hT,SE.out,hx])
   clear hd hx hr hT hlt
   go_wp2_with (first
    | (refine qQa rfl (qXs 37 (.tmp 8) rfl 32 5 Tryz.underlying37 I0.out M rfl _) ?_)
    | (refine qQa rfl (qZo 22 9 (.tmp 38) rfl Tryz.underlying22 Tryz.underlying5 Tryz.underlying9 (RdB.row R2.out) 32 32 SL.out rfl) ?_))
   refine(rput_any S x 8 (by omega) (by rw [SL.out];omega) _).mono ?_
   rw[putN_8b]
   rintro e w3 ⟨rfl,hb3⟩
   have B:=Lh (B.out.trans (hb3.mono B.out.size))
   have R2:=Lh (qQb hb3 (qQe R2.out) R2.out)
   clear hb3
   go_wp2_with fail
   refine(rsum_any (S++beL 8 x.toNat) (by rw [kQj,SL.out,qZj];omega) _).mono ?_
   rw[←TE.out]
   rintro e w4 ⟨rfl,hb4⟩
   have B:=Lh (B.out.trans (hb4.mono B.out.size))
   have R2:=Lh (qQb hb4 (qQe R2.out) R2.out)
   clear hb4
   go_upto_region 8 with (refine qQp rfl rfl 37 (.tmp 10) (.tmp 44) rfl (W8 T) rfl rfl ZT.out ?c1 (qZg _) ?_)
   case c1=>rw [qQw,TL.out];rfl
   obtain⟨M2,hM⟩:∃M,M=w4.heap.size:=⟨_,rfl⟩
   obtain⟨w5,hw5⟩:∃w5,w5=w4.alloc (.cells (W8 T) 37):=⟨_,rfl⟩
   have RT:=Lh (show RdB w5 (some ⟨M2,0+r,none⟩) (T.drop r)from fun j hj=>by
    rw[kQv,TL.out]at hj
    have h1:=qQg (show w5.heap[M2]?=some (.cells (W8 T) 37 (0,0)) by rw [hw5];exact qQk _ _ _ hM) (r+j) (qZ4 _ (r+j) (by rw [TL.out];omega))
    refine⟨M2,0+r,rfl,?_⟩
    rw[Nat.zero_add,h1]
    simp [kQa,List.getElem?_drop])
   have R2:=Lh (show w5.heap[M]?=some (.cells (W8 S) 37 (0,0)) by rw [hw5];exact qQM _ _ _ (qQe R2.out) R2.out)
   have B:=Lh (show Below w.heap.size w w5 by rw [hw5];exact B.out.alloc B.out.size _)
   rw[←hw5,←hM]
   have hcat:¬9223372036854775807<(strB X).size+(strB (T.drop r)).size:=by rw [qQH,qQH,XL.out,kQv,TL.out];have:=MK.out;have:=HK.out;omega
   clear hw5 hM SX
   go_wp2_with (first
    | (refine qQa rfl (qVm 37 (.tmp 10) (.tmp 47) rfl 32 5 Tryz.underlying37 I0.out I1.out .i64 M2 0 r R32.out rfl rfl _) ?_)
    | (refine qQa rfl (qZo 22 9 (.tmp 48) rfl Tryz.underlying22 Tryz.underlying5 Tryz.underlying9 RT.out (32-r) (32-r) (by rw [kQv,TL.out]) rfl) ?_))
   case roundEnd=>
    have h1:=LT.out
    have h2:=R32.out
    have h3:(strB X).size=m:=by rw [qQH,XL.out]
    have h4:(strB X++strB (T.drop r)).size=m+(32-r):=by rw [qWX,qQH,kQj,XL.out,kQv,TL.out]
    refine⟨⟨m+(32-r),_,rfl,by rw [qWX,NX.out],by omega,fun _=>by have:=MN.out h1;omega,R2.out,B.out⟩,?_⟩
    show k-(strB X++strB (T.drop r)).size<k-(strB X).size
    rw[h3,h4]
    omega
  ·have hD:decide ((m:Int)<(k:Int))=false:=by simp;omega
   have LT:=Lh hlt
   clear hlt
   go_wp2_with (refine qQa rfl (qWJ 9 (.tmp 51) (.tmp 53) rfl Tryz.underlying9 X k (by rw [XL.out];have:=LT.out;omega) rfl rfl _) ?_)
   go_ret
   refine⟨?_,B.out⟩
   show Ending.returned (.string (strB (X.take k)))=_
   rw[XE.out,tellS_take F u m k (by have:=LT.out;omega),RE.out]
end Go.Proofs.YtlocplkjokoknaaGreat
namespace Go.Proofs.YtlocplkjokoknaaGreat
open Go.RowKit
theorem qQr {P:Program} {o:Oper} {a:Act} (t:TypeId) (x i:Operand) (ho:o.op=.indexAddr t x i) (e:Nat) (ht:P.underlying t=some (.slice e)) (sz:Nat) (hi:(P.info? e).map (·.size)=some sz)
  (b off n c j:Nat) (hj:j<n) (k:IntKind) (z:Int) (hz:z=(j:Int)) (hx:a.eval x=.slice (some ⟨b,off,none⟩) n c) (hii:a.eval i=.int k z) (W:World):(execOp a.eval o).run P W=.ok (.value (.pointer (some ⟨b,off+j*sz,none⟩))) W:=by
 subst hz
 obtain⟨ti,hti,hsz⟩:=Option.map_eq_some_iff.1 hi
 have hel:P.elem t=e:=by simp [Program.elem,ht]
 have h:=run_indexAt_slice W t ⟨b,off,none⟩ n c k (j:Int) (P:=P) (by rw [hel];exact ht)
 unfold execOp
 simp only [ho,hx,hii,Sem.run_bind,Sem.run_pure,h,hel]
 rw[if_pos ⟨by omega,by omega⟩]
 simp [sizeOf,typeInfo,hti,hsz,Result.andThen,qXZ]
end Go.Proofs.YtlocplkjokoknaaGreat
namespace Go.Proofs.YtlocplkjokoknaaGreat
open Go.RowKit
attribute [local go_sem ↓] Go.wp_at_zero Go.wp_at_succ
structure REnt where
 x:List UInt8
 key:List UInt8
 beside:List UInt8
 text:List UInt8
structure RBx where
 mode:Nat
 F:List UInt8
 u:Nat
 L:List REnt
def RowE (p:REnt):List Value:=[.string (strB p.x),.string (strB p.key),.string (strB p.beside),.string (strB p.text)]
def EC (L:List REnt):List Value:=L.flatMap RowE
theorem EC_length (L:List REnt):(EC L).length=L.length*4:=by
 induction L with
 | nil=>rfl
 | cons p L ih=>simp only [EC,List.flatMap_cons,kQj]at *;rw [ih];simp [RowE];omega
theorem EC_append (L L':List REnt):EC (L++L')=EC L++EC L':=by simp [EC]
theorem EC_get (L:List REnt) (j i:Nat) (hi:i<4) (p:REnt) (hp:L[j]?=some p):(EC L)[j*4+i]?=(RowE p)[i]?:=by
 induction L generalizing j with
 | nil=>simp at hp
 | cons q L ih=>
  have e:EC (q::L)=RowE q++EC L:=by simp [EC]
  rw[e]
  cases j with
  | zero=>
   simp at hp
   subst hp
   rw[Nat.zero_mul,Nat.zero_add,List.getElem?_append_left (by simpa [RowE]using hi)]
  | succ j=>
   rw[kQq (by simp [RowE];omega),show(j+1)*4+i-(RowE q).length=j*4+i by simp [RowE];omega]
   exact ih j (by simpa using hp)
theorem EC_one (L:List REnt):∀u∈EC L,u.oneCell'=true:=by
 intro u hu
 simp only [EC,List.mem_flatMap,RowE,List.mem_cons,List.mem_nil_iff,or_false]at hu
 obtain⟨p,_,rfl|rfl|rfl|rfl⟩:=hu<;>rfl
def RBC (m:Nat) (F:List UInt8) (u:Nat) (A:Option Addr) (n c:Nat):Array Value:=#[.int .i64 (m:Int),.string (strB F),.int .i64 (u:Int),.slice A n c]
def RBZ:Array Value:=#[.int .i64 0,.string ⟨#[]⟩,.int .i64 0,.slice none 0 0]
theorem qQ3 (m:Nat) (F:List UInt8) (u:Nat) (A:Option Addr) (n c:Nat):(RBC m F u A n c).all (·.oneCell')=true:=by simp [RBC,Value.oneCell']
theorem qQK:(Tryz.prog.info? 32).map (·.size)=some 4:=by kernel_rfl
theorem ret_rbx {fn:Func} {R:Ending→World→Prop} {a:Act} {w:World} (g:Nat) (cs:Array Value) (v:Value) {p u:Tmp} (h:fn.results=#[.cell p 32,.tmp u])
  (hp:a.tmps.getD p undef=.pointer (some ⟨g,0,none⟩)) (hu:a.tmps.getD u undef=v) (hd:a.defers=[]) (hg:w.heap[g]?=some (.cells cs 32 (0,0))) (hs:cs.size=4) (hR:R (.returned (.tuple #[.agg cs,v])) w):bodyPost Tryz.prog fn R .ret a w:=by
 refine bodyPost_ret ?_ hd hR
 rw[results_cell_tmp h,hp,hu]
 show(((asAddr (.pointer (some ⟨g,0,none⟩))).run _ _).andThen _)=_
 simp only [asAddr,Sem.run_pure,Result.andThen_ok]
 rw[run_loadVar_row w g _ 32 cs (0,0) _ hg Tryz.underlying32 rfl (by rw [hs];exact qQK)]
 rfl
theorem qJ2 {fn:Func} {p u v:Tmp} {ty:TypeId} (h:fn.results=#[.cell p ty,.tmp u,.tmp v]) (tmps:Array Value) (P:Program) (w:World) :
  (results fn tmps).run P w =
   ((asAddr (tmps.getD p undef)).run P w).andThen fun a w₁=>((loadVar ty a).run P w₁).andThen fun x w₂=>.ok (.tuple #[x,tmps.getD u undef,tmps.getD v undef]) w₂:=by
 simp only [results,h]
 simp [Sem.run_bind,Result.andThen]
theorem ret_rbx2 {fn:Func} {R:Ending→World→Prop} {a:Act} {w:World} (g:Nat) (cs:Array Value) (v v2:Value) {p u u2:Tmp} (h:fn.results=#[.cell p 32,.tmp u,.tmp u2])
  (hp:a.tmps.getD p undef=.pointer (some ⟨g,0,none⟩)) (hu:a.tmps.getD u undef=v) (hu2:a.tmps.getD u2 undef=v2) (hd:a.defers=[]) (hg:w.heap[g]?=some (.cells cs 32 (0,0))) (hs:cs.size=4) (hR:R (.returned (.tuple #[.agg cs,v,v2])) w):bodyPost Tryz.prog fn R .ret a w:=by
 refine bodyPost_ret ?_ hd hR
 rw[qJ2 h,hp,hu,hu2]
 show(((asAddr (.pointer (some ⟨g,0,none⟩))).run _ _).andThen _)=_
 simp only [asAddr,Sem.run_pure,Result.andThen_ok]
 rw[run_loadVar_row w g _ 32 cs (0,0) _ hg Tryz.underlying32 rfl (by rw [hs];exact qQK)]
 rfl
theorem qVq (m:Nat) (F:List UInt8) (u:Nat) (A:Option Addr) (n c:Nat) (hF:F.length≤2900) (hu:u≤1000000) (k:Nat) (hk:k≤70000) (w:World) :
  Calls Tryz.prog 28 #[.agg (RBC m F u A n c),.int .i64 (k:Int)] w fun e w'=>e=.returned (.tuple #[.agg (RBC m F (u+k) A n c),.string (strB (qQR F u k))])∧Below w.heap.size w w':=by
 have HF:=Lh hF
 have HU:=Lh hu
 have HK:=Lh hk
 have ub:(u:Int)≤1000000:=by omega
 have kb:(k:Int)≤70000:=by omega
 obtain⟨X,hX⟩:∃X,X=qQR F u k:=⟨_,rfl⟩
 have XE:=Lh hX
 rw[←hX]
 obtain⟨cs,hcs⟩:∃cs,cs=RBC m F u A n c:=⟨_,rfl⟩
 have CE:=Lh hcs
 rw[←hcs]
 have CZ:=Lh (show(Tryz.prog.info? 32).map (·.size)=some cs.size by rw [hcs];exact qQK)
 clear hF hu hk hX hcs
 go_enter Tryz.func28,Tryz.ntmps28
 go_upto_region 1 with fail
 generalize hw1:World.alloc w _=w1
 generalize hw2:World.alloc w1 _=w2
 have R2:=Lh (show w2.heap[w.heap.size]?=some (.cells cs 32 (0,0)) by rw [←hw2,←hw1];exact qQM _ _ _ (by simp) (qQk _ _ _ rfl))
 have Z2:=Lh (show w2.heap[w.heap.size+1]?=some (.cells RBZ 32 (0,0)) by rw [←hw2,←hw1];exact qQk _ _ _ (by simp))
 have B2:=Lh (show Below w.heap.size w w2 by rw [←hw2,←hw1];exact(qQh _ _).trans ((qQh _ _).mono (by simp)))
 clear hw1 hw2
 have c1:=qQg R2.out 1 (show cs[1]?=some (.string (strB F)) by rw [CE.out];rfl)
 have c2:=qQg R2.out 2 (show cs[2]?=some (.int .i64 (u:Int)) by rw [CE.out];rfl)
 go_wp2_with fail
 refine(rbytes_any F F.length rfl HF.out u HU.out k HK.out w2).mono ?_
 rw[←XE.out]
 rintro e w3 ⟨rfl,hb3⟩
 have R3:=Lh (qQb hb3 (qQe R2.out) R2.out)
 have Z3:=Lh (qQb hb3 (qQe Z2.out) Z2.out)
 have B3:=Lh (B2.out.trans (hb3.mono B2.out.size))
 clear hb3 c1 c2
 have c2:=qQg R3.out 2 (show cs[2]?=some (.int .i64 (u:Int)) by rw [CE.out];rfl)
 have f2:=qQz R3.out 2
 go_upto_region 3 with fail
 rw[show((u:Int)+(k:Int))=((u+k:Nat):Int) by omega]
 generalize hw4:World.setCell w3 _ _=w4
 have G4:=Lh (show w3.grownBy w4 (some w.heap.size) by rw [←hw4];exact qQF (World.grownBy.refl _ _) _ _)
 obtain⟨ds,hds⟩:∃ds,ds=RBC m F (u+k) A n c:=⟨_,rfl⟩
 have DE:=Lh hds
 have R4:=Lh (show w4.heap[w.heap.size]?=some (.cells ds 32 (0,0)) by rw [←hw4,heap_setCell_same _ _ _ _ _ _ R3.out,CE.out,hds];rfl)
 have Z4:=Lh (qQd G4.out (by simp) Z3.out)
 have B4:=Lh (B3.out.trans (qQi G4.out B3.out.size (by rintro x ⟨⟩;exact kQh _)))
 have DZ:=Lh (show(Tryz.prog.info? 32).map (·.size)=some ds.size by rw [hds];exact qQK)
 have DO:=Lh (show ds.all (·.oneCell')=true by rw [hds];exact qQ3 _ _ _ _ _ _)
 have DS:=Lh (show ds.size=4 by rw [hds];rfl)
 clear hw4 hds c2 f2
 go_wp2_with (first
  | (refine qQa rfl (qQj 32 (.tmp 2) rfl w.heap.size rfl 32 ds (0,0) _ R4.out Tryz.underlying32 rfl DZ.out) ?_)
  | (refine qQf rfl rfl 32 (.tmp 4) (.tmp 18) rfl (w.heap.size+1) ds rfl rfl 32 RBZ Z4.out DZ.out (by rw [DS.out];rfl) DO.out ?_;intro w5 hz5 hg5 _))
 refine ret_rbx (w.heap.size+1) ds _ rfl rfl rfl rfl hz5 DS.out ⟨by rw [DE.out];rfl,B4.out.trans (qQi hg5 B4.out.size (by rintro x ⟨⟩;omega))⟩
def qWu (L:List REnt) (x:List UInt8):Bool:=L.any fun p=>decide (p.x=x)
theorem rng_cell {W:World} {A:Option Addr} {L:List REnt} (h:RdV W A (EC L)) {j:Nat} {p:REnt} (hp:L[j]?=some p):∃b o,A=some ⟨b,o,none⟩∧∀i v,(RowE p)[i]?=some v→W.cell? ⟨b,o+j*4+i,none⟩=some v:=by
 obtain⟨b,o,e,_⟩:=h (j*4+0) (.string (strB p.x)) (by rw [EC_get L j 0 (by omega) p hp];rfl)
 refine⟨b,o,e,fun i v hi=>?_⟩
 have hi4:i<4:=by have:=(List.getElem?_eq_some_iff.1 hi).1;simpa [RowE]using this
 obtain⟨b',o',e',hc⟩:=h (j*4+i) v (by rw [EC_get L j i hi4 p hp];exact hi)
 rw[e]at e'
 cases e'
 rw[Nat.add_assoc]
 exact hc
theorem rknown_any (m:Nat) (F:List UInt8) (u:Nat) (A:Option Addr) (n c:Nat) (L:List REnt) (hn:L.length=n) (w:World) (hR:RdV w A (EC L)) (x:List UInt8) (hm:n≤1000000) :
  Calls Tryz.prog 58 #[.agg (RBC m F u A n c),.string (strB x)] w fun e w'=>e=.returned (.bool (qWu L x))∧Below w.heap.size w w':=by
 have IE:=Lh (show(Tryz.prog.info? 124).map (·.size)=some 4 by kernel_rfl)
 have HN:=Lh hn
 have RL:=Lh hR
 have nb:(n:Int)≤1000000:=by omega
 obtain⟨cs,hcs⟩:∃cs,cs=RBC m F u A n c:=⟨_,rfl⟩
 have CE:=Lh hcs
 rw[←hcs]
 clear hn hR hcs hm
 go_enter Tryz.func58,Tryz.ntmps58
 go_upto_region 1 with fail
 generalize hw1:World.alloc w _=w1
 have R1:=Lh (show w1.heap[w.heap.size]?=some (.cells cs 32 (0,0)) by rw [←hw1];exact qQk _ _ _ rfl)
 have B1:=Lh (show Below w.heap.size w w1 by rw [←hw1];exact qQh _ _)
 have RL:=Lh (show RdV w1 A (EC L)from fun j v hj=>by
  obtain⟨b,o,e,hc⟩:=RL.out j v hj
  exact⟨b,o,e,(qQJ B1.out).cell hc (fun er=>by cases er)⟩)
 clear hw1
 have c3:=qQg R1.out 3 (show cs[3]?=some (.slice A n c) by rw [CE.out];rfl)
 go_wp2_with fail
 go_loopw [5] (fun i wr=>∃j:Nat,j≤n∧i=.int .i64 (j:Int)∧qWu (L.take j) x=false∧wr=w1) (fun i _=>n-(intOf i).toNat)
 case atStart=>exact⟨0,by omega,rfl,rfl,rfl⟩
 case round=>
  obtain⟨j,hj,rfl,hk,hwr⟩:=hrel
  rw[hwr]
  clear hwr wr
  have J:=Lh hj
  have K:=Lh hk
  clear hj hk
  by_cases hlt:j<n
  ·have hD:decide ((j:Int)<(n:Int))=true:=by simp;omega
   obtain⟨p,hp⟩:∃p,L[j]?=some p:=⟨_,kQi (by rw [HN.out];exact hlt)⟩
   obtain⟨b,o,hA,hc⟩:=rng_cell RL.out hp
   have AE:=Lh hA
   have C0:=Lh (hc 0 _ rfl)
   have LT:=Lh hlt
   have KN:=Lh (show qWu (L.take (j+1)) x=decide (p.x=x) by
    rw[qWu,List.take_succ_eq_append_getElem (by rw [HN.out];exact hlt),List.any_append]
    have h1:(L.take j).any (fun p=>decide (p.x=x))=false:=K.out
    have h2:L[j]'(by rw [HN.out];exact hlt)=p:=by
     rw[kQi (by rw [HN.out];exact hlt)]at hp
     exact Option.some.inj hp
    rw[h1,h2]
    simp)
   have KT:=Lh (show p.x=x→qWu L x=true from fun e=>by
    simp only [qWu,List.any_eq_true,decide_eq_true_eq]
    exact⟨p,kQu hp,e⟩)
   obtain⟨y,hy⟩:∃y,y=p.x:=⟨_,rfl⟩
   rw[←hy]at C0 KN KT
   clear hp hA hc hlt hy
   by_cases hq:y=x
   ·have HQ:=Lh hq
    go_wp2_with (first
     | (refine qQa rfl (qQr 30 (.tmp 14) (.tmp 15) rfl 124 Tryz.underlying30 4 IE.out b o n c j LT.out .i64 _ rfl (by rw [←AE.out];rfl) rfl _) ?_)
     | (refine qQa rfl (qQq 9 (.tmp 17) rfl _ Tryz.underlying9 rfl rfl C0.out) ?_)
     | (refine qQa rfl (qZx 9 _ (.tmp 18) (.tmp 19) rfl y x HQ.out rfl rfl _) ?_))
    go_ret
    exact⟨by rw [KT.out HQ.out];rfl,B1.out⟩
   ·have HQ:=Lh hq
    go_wp2_with (first
     | (refine qQa rfl (qQr 30 (.tmp 14) (.tmp 15) rfl 124 Tryz.underlying30 4 IE.out b o n c j LT.out .i64 _ rfl (by rw [←AE.out];rfl) rfl _) ?_)
     | (refine qQa rfl (qQq 9 (.tmp 17) rfl _ Tryz.underlying9 rfl rfl C0.out) ?_)
     | (refine qQa rfl (show(execOp _ _).run _ _=.ok (.value (.bool false)) _ from(qXC 9 _ (.tmp 18) (.tmp 19) rfl y x rfl rfl _).trans (by rw [decide_eq_false HQ.out])) ?_))
    go_roundw
    case rel=>exact⟨j+1,by have:=LT.out;omega,by go_num,by rw [KN.out];exact decide_eq_false HQ.out,trivial⟩
    case measure=>have:=LT.out;simp [intOf];omega
  ·have hD:decide ((j:Int)<(n:Int))=false:=by simp;omega
   have KF:=Lh (show qWu L x=false by
    have:=K.out
    rwa [kQn (by rw [HN.out];omega)]at this)
   go_wp2_with fail
   go_ret
   exact⟨by rw [KF.out];rfl,B1.out⟩
end Go.Proofs.YtlocplkjokoknaaGreat
namespace Go.Proofs.YtlocplkjokoknaaGreat
open Go.RowKit
structure SlK (P:Program) (t e:TypeId) (z:Value) (sz b:Nat):Prop where
 ht:P.underlying t=some (.slice e)
 hinfo:(P.info? e).map (fun i=>(i.zero,i.size,i.bytes))=some (some z,sz,b)
 hz:z.cells.size=sz
 h0:0<sz
def OwnK (w:World) (base:Nat) (e:TypeId) (sz:Nat) (v:Value) (n:Nat) (l:List Value):Prop:=w.ownsRow base e sz v n l
theorem OwnK.read {w:World} {base:Nat} {e:TypeId} {sz:Nat} {v:Value} {n:Nat} {l:List Value} (h:OwnK w base e sz v n l) :
  l.length=n*sz∧∃A c,v=.slice A n c∧RdV w A l∧n≤c∧c≤9223372036854775807∧∀a,A=some a→base≤a.block∧a.block<w.heap.size:=by
 have h':=h
 refine⟨h.1,?_⟩
 rcases h'.2 with ⟨hv,hn⟩|⟨g,cap,cur,hv,hb,hh,hnc,hcm,hcs,_⟩
 ·exact⟨none,0,by rw [hv,hn],fun j v hj=>by have:=(List.getElem?_eq_some_iff.1 hj).1;have:=h.1;rw [hn]at this;omega,by omega,by omega,fun a e=>by cases e⟩
 ·refine⟨_,cap,hv,fun j u hj=>⟨g,0,rfl,?_⟩,hnc,by simpa [maxLen]using hcm,fun a e=>by cases e;exact⟨hb,qQe hh⟩⟩
  have:=World.ownsRow.cells h (g:=g) (by rw [hv];rfl) j _ hj
  rwa [qXZ]at this
theorem OwnK.nil (w:World) (base:Nat) (e:TypeId) (sz:Nat):OwnK w base e sz (.slice none 0 0) 0 []:=World.ownsRow_nil _ _ _ _
theorem OwnK.made (w:World) (base:Nat) (e:TypeId) (sz:Nat) (hb:base≤w.heap.size):OwnK (w.alloc (.cells #[] e)) base e sz (.slice (some ⟨w.heap.size,0,none⟩) 0 0) 0 []:=World.ownsRow_made w #[] 0 hb (Nat.zero_le _) (by simp)
theorem OwnK.lt {w:World} {base:Nat} {e:TypeId} {sz:Nat} {v:Value} {n:Nat} {l:List Value} (h:OwnK w base e sz v n l):∀k,v.ownBlock=some k→base≤k∧k<w.heap.size:=World.ownsRow.lt h
theorem OwnK.grown {w w':World} {base:Nat} {e:TypeId} {sz:Nat} {v:Value} {n:Nat} {l:List Value} {r:Option Nat} (h:OwnK w base e sz v n l) (hg:w.grownBy w' r) (hne:v.ownBlock=none∨v.ownBlock≠r):OwnK w' base e sz v n l:=World.ownsRow.kept h hg hne
theorem OwnK.below {w w':World} {base:Nat} {e:TypeId} {sz:Nat} {v:Value} {n:Nat} {l:List Value} (h:OwnK w base e sz v n l) (hb:Below w.heap.size w w'):OwnK w' base e sz v n l:=h.grown (qQJ hb) (by cases v.ownBlock<;>simp)
theorem run_appK {P:Program} {t e:TypeId} {z:Value} {sz bt:Nat} (T:SlK P t e z sz bt) (ty:TypeId) (W:World) (base:Nat) (v:Value) (n:Nat) (l ys:List Value) (A:Option Addr) (m c:Nat) (hm:ys.length=m*sz) (HO:OwnK W base e sz v n l) (HR:RdV W A ys) (h1:∀u∈ys,u.oneCell'=true)
  (hbase:base≤W.heap.size) (hl:n+m≤9223372036854775807) (hl2:(n+m)*bt≤140737488355328) :
  ∃v1 w1,(Builtin.append_ #[t,t] ty #[v,.slice A m c]).run P W=.ok v1 w1∧OwnK w1 base e sz v1 (n+m) (l++ys)∧W.grownBy w1 v.ownBlock∧(v1.ownBlock=v.ownBlock∨v1.ownBlock=some W.heap.size):=by
 obtain⟨i0,hi,hzz⟩:=Option.map_eq_some_iff.1 T.hinfo
 simp only [Prod.mk.injEq]at hzz
 obtain⟨hz0,hz1,hz2⟩:=hzz
 have ht:=T.ht
 have h0:=T.h0
 rcases ys with _|⟨y,r⟩
 ·have hm0:m=0:=by
   rcases Nat.eq_zero_or_pos m with h|h
   ·exact h
   ·have:=Nat.mul_pos h h0;simp at hm;omega
  subst hm0
  rcases A with _|ad
  ·refine⟨v,W,?_,by simpa using HO,World.grownBy.refl W _,.inl rfl⟩
   rcases HO.2 with ⟨rfl,hn⟩|⟨g,cap,cur,rfl,_,_,hnc,_⟩
   ·simp [Builtin.append_,run_underlying ht,sizeOf,typeInfo,hi,Builtin.lenOf,Builtin.firstCells]
   ·simp [Builtin.append_,run_underlying ht,sizeOf,typeInfo,hi,Builtin.lenOf,Builtin.firstCells,hnc,storeCells]
  ·obtain⟨v1,w1,hr,h2,h3,_,h5⟩:=run_append_own_at (P:=P) W base t ty e i0 z sz bt ht hi hz0 hz1 hz2 T.hz h0 v n l HO ad 0 c [] (by simp) (by simp) (by simp) (by simpa [maxLen]using hl) (by simpa using hl2) hbase
   exact⟨v1,w1,hr,by simpa [OwnK]using h2,h3,h5⟩
 ·obtain⟨b,o,rfl,_⟩:=HR 0 y (by simp)
  obtain⟨v1,w1,hr,h2,h3,_,h5⟩:=run_append_own_at (P:=P) W base t ty e i0 z sz bt ht hi hz0 hz1 hz2 T.hz h0 v n l HO ⟨b,o,none⟩ m c (y::r) hm
   (fun j u hu=>by
    obtain⟨b',o',e',hc'⟩:=HR j u hu
    injection e' with e'
    injection e' with e1 e2
    subst e1 e2
    rw[qXZ,hc']) h1 (by simpa [maxLen]using hl) hl2 hbase
  exact⟨v1,w1,hr,h2,h3,h5⟩
section
variable {P:Program} {ops:Array Oper} {rest:List Oper} {o:Oper} {a:Act} {Q:Exit→Act→World→Prop} {K:Act→World→Prop} {E:Prop} {t e:TypeId} {z:Value} {sz bt:Nat}
theorem qJl (T:SlK P t e z sz bt) (s x:Operand) (ho:o.op=.call { callee:=.builtin .append,args:=#[s,x],argTypes:=#[t,t] }) {W:World}
  (base:Nat) (v:Value) (n:Nat) (l ys:List Value) (A:Option Addr) (m c:Nat) (hs:a.eval s=v) (hx:a.eval x=.slice A m c) (hm:ys.length=m*sz) (HO:OwnK W base e sz v n l) (HR:RdV W A ys) (h1:∀u∈ys,u.oneCell'=true) (hbase:base≤W.heap.size) (hl:n+m≤9223372036854775807) (hl2:(n+m)*bt≤140737488355328)
  (h:∀v1 w1,OwnK w1 base e sz v1 (n+m) (l++ys)→W.grownBy w1 v.ownBlock→(v1.ownBlock=v.ownBlock∨v1.ownBlock=some W.heap.size)→K (a.put o.dst v1) w1):o.wp P a W K Q:=by
 obtain⟨v1,w1,hr,h2,h3,h5⟩:=run_appK T o.type W base v n l ys A m c hm HO HR h1 hbase hl hl2
 unfold Oper.wp execOp
 simp only [ho,resolve,invoke,builtin,Sem.run_bind,Sem.run_pure,Result.andThen_ok,kQs,kQw,List.map_nil,hs,hx,hr]
 exact h v1 w1 h2 h3 h5
theorem appK_list (hgd:o.guard=none) (T:SlK P t e z sz bt) (s x:Operand) (ho:o.op=.call { callee:=.builtin .append,args:=#[s,x],argTypes:=#[t,t] }) {W:World}
  (base:Nat) (v:Value) (n:Nat) (l ys:List Value) (A:Option Addr) (m c:Nat) (hs:a.eval s=v) (hx:a.eval x=.slice A m c) (hm:ys.length=m*sz) (HO:OwnK W base e sz v n l) (HR:RdV W A ys) (h1:∀u∈ys,u.oneCell'=true) (hbase:base≤W.heap.size) (hl:n+m≤9223372036854775807) (hl2:(n+m)*bt≤140737488355328)
  (h:∀v1 w1,OwnK w1 base e sz v1 (n+m) (l++ys)→W.grownBy w1 v.ownBlock→(v1.ownBlock=v.ownBlock∨v1.ownBlock=some W.heap.size)→wpList P ops Q rest (a.put o.dst v1) w1):wpList P ops Q (o::rest) a W:=
 wpList_plain hgd fun _ hK=>qJl T s x ho base v n l ys A m c hs hx hm HO HR h1 hbase hl hl2 (fun v1 w1 h1 h2 h3=>hK _ _ (h v1 w1 h1 h2 h3))
end
end Go.Proofs.YtlocplkjokoknaaGreat
namespace Go.Proofs.YtlocplkjokoknaaGreat
open Go.RowKit
attribute [local go_sem ↓] Go.wp_at_zero Go.wp_at_succ
def valB:List Nat→Nat
 | []=>0
 | d::l=>d+256*valB l
theorem qZc (a b:List Nat):valB (a++b)=valB a+256 ^ a.length*valB b:=by
 induction a with
 | nil=>simp [valB]
 | cons d a ih=>
  rw[List.cons_append,valB,valB,ih,List.length_cons,Nat.pow_succ]
  grind
theorem qXm (l:List Nat) (i:Nat):valB (l.drop i)=l.getD i 0+256*valB (l.drop (i+1)):=by
 by_cases hi:i<l.length
 ·rw [List.drop_eq_getElem_cons hi,valB]
  simp [kQa,hi]
 ·rw [kQt (by omega),kQt (by omega)]
  simp [valB,kQa,List.getElem?_eq_none (show l.length≤i by omega)]
theorem valB_bytes (l:List UInt8):valB (l.map (·.toNat))=qZv l:=by
 induction l with
 | nil=>rfl
 | cons c l ih=>rw [kQw,valB,qZv,ih]
def NumV (l:List Nat):List Value:=l.map fun n:Nat=>Value.int .i64 (n:Int)
theorem qQC (l:List Nat):(NumV l).length=l.length:=by simp [NumV]
theorem qJR (l:List Nat) (i:Nat) (h:i<l.length):(NumV l)[i]?=some (.int .i64 ((l.getD i 0:Nat):Int)):=by simp [NumV,h]
theorem qZk (a b:List Nat):NumV (a++b)=NumV a++NumV b:=by simp [NumV]
theorem qZT (l:List Nat) (A:Option Addr) (n c:Nat) (hn:l.length=n) (i:Nat) (w:World) (hR:RdV w A (NumV l)) :
  Calls Tryz.prog 118 #[.slice A n c,.int .i64 (i:Int)] w fun e w'=>e=.returned (.int .i64 ((l.getD i 0:Nat):Int))∧w'=w:=by
 have HN:=Lh hn
 have HR:=Lh hR
 clear hn hR
 go_enter Tryz.func118,Tryz.ntmps118
 by_cases h:i<n
 ·have hD:decide ((i:Int)<(n:Int))=true:=by simp;omega
  obtain⟨b,o,rfl,hc⟩:=HR.out i _ (qJR l i (by rw [HN.out];exact h))
  go_wp2_with fail
  go_ret
  exact⟨rfl,rfl⟩
 ·have hD:decide ((i:Int)<(n:Int))=false:=by simp;omega
  have e:Hid (l.getD i 0=0):=by show _=_;rw [kQa,List.getElem?_eq_none (by rw [HN.out];omega)];rfl
  go_wp2_with fail
  go_ret
  rw[e.out]
  exact⟨rfl,rfl⟩
structure Digs (l:List Nat) (x m:Nat):Prop where
 val:valB l=x
 dig:∀d∈l,d<256
 len:m≤l.length
 top:l.length≤m∨256 ^ (l.length-1)≤x
theorem numT:SlT Tryz.prog 214 3 (.int .i64 0) 8:=⟨Tryz.underlying214,by kernel_rfl,by rfl⟩
structure CarS (l:List Nat) (o:List Nat) (c:Nat):Prop where
 val:valB o+256 ^ o.length*(c+valB (l.drop o.length))=valB l
 dig:∀d∈o,d<256
 cb:c≤1099511627776
 top:o.length≤l.length∨256 ^ (o.length-1)≤valB l
 few:o.length≤l.length∨o.length+c≤l.length+1099511627776
theorem CarS.start (l:List Nat):CarS l [] 0:=⟨by simp [valB],by simp,by omega,by simp,by simp⟩
theorem qZL {l:List Nat} {B:Nat} (h:∀d∈l,d≤B) (i:Nat):l.getD i 0≤B:=by
 by_cases hi:i<l.length
 ·rw [kQa,kQi hi]
  exact h _ (List.getElem_mem hi)
 ·rw [kQa,List.getElem?_eq_none (by omega)]
  exact Nat.zero_le _
theorem CarS.step {l o:List Nat} {c:Nat} (h:CarS l o c) (hl:∀d∈l,d≤1099511627776) (hgo:o.length<l.length∨0<c):CarS l (o++[(c+l.getD o.length 0) % 256]) ((c+l.getD o.length 0)/256) where
 val:=by
  have e:=h.val
  rw[qXm]at e
  rw[qZc,kQj,List.length_singleton,←e,valB,valB,Nat.pow_succ]
  have:=Nat.div_add_mod (c+l.getD o.length 0) 256
  generalize (c+l.getD o.length 0)/256=q at *
  generalize (c+l.getD o.length 0) % 256=r at *
  have e2:c+(l.getD o.length 0+256*valB (l.drop (o.length+1)))=r+256*(q+valB (l.drop (o.length+1))):=by omega
  rw[e2]
  grind
 dig:=by
  intro d hd
  rcases List.mem_append.1 hd with hd|hd
  ·exact h.dig d hd
  ·simp at hd
   omega
 cb:=by
  have:=h.cb
  have:=qZL hl o.length
  omega
 top:=by
  rw[kQj,List.length_singleton]
  by_cases h1:o.length<l.length
  ·left;omega
  ·right
   have e:=h.val
   rw[kQt (by omega)]at e
   have hc:0<c:=hgo.resolve_left h1
   simp only [valB,Nat.add_zero]at e
   rw[Nat.add_sub_cancel,←e]
   have:=Nat.le_mul_of_pos_right (256 ^ o.length) hc
   omega
 few:=by
  rw[kQj,List.length_singleton]
  by_cases h1:o.length<l.length
  ·left;omega
  ·right
   have hc:0<c:=hgo.resolve_left h1
   have:=h.cb
   have e:l.getD o.length 0=0:=by rw [kQa,List.getElem?_eq_none (by omega)];rfl
   rw[e]
   rcases h.few with h2|h2<;>omega
theorem CarS.done {l o:List Nat} {c:Nat} (h:CarS l o c) (h1:¬(o.length<l.length)) (h2:c=0):Digs o (valB l) l.length:=by
 refine⟨?_,h.dig,by omega,h.top⟩
 have e:=h.val
 rw[kQt (by omega),h2]at e
 simpa [valB]using e
theorem qYd (l:List Nat) (hl:∀d∈l,d≤1099511627776) (A:Option Addr) (n c:Nat) (hn:l.length=n) (hm:n≤1000) (w:World) (hR:RdV w A (NumV l)) :
  Calls Tryz.prog 133 #[.slice A n c] w fun e w'=>∃v o,e=.returned v∧OwnV w' w.heap.size 3 v (NumV o)∧Digs o (valB l) n∧Below w.heap.size w w':=by
 have HL:=Lh hl
 have HN:=Lh hn
 have HR:=Lh hR
 have HM:=Lh hm
 have NT:=Lh numT
 clear hl hn hR hm
 go_enter Tryz.func133,Tryz.ntmps133
 go_wp2_with fail
 go_loopw [3,4,5] (fun u q i wr=>∃(o:List Nat) (k:Nat),OwnV wr w.heap.size 3 u (NumV o)∧q=.int .i64 (k:Int)∧i=.int .i64 (o.length:Int)∧CarS l o k∧Below w.heap.size w wr) (fun _ q i _=>(n-(intOf i).toNat)*4398046511104+(intOf q).toNat)
 case atStart=>exact⟨[],0,OwnV.nil _ _ _,rfl,rfl,CarS.start l,Below.refl _ _⟩
 case round=>
  obtain⟨o,k,ho,rfl,rfl,hs,hb⟩:=hrel
  have O1:=Lh ho
  have S1:=Lh hs
  have B1:=Lh hb
  obtain⟨i,hi⟩:∃i,i=o.length:=⟨_,rfl⟩
  rw[←hi]
  have IE:=Lh hi
  clear ho hs hb hi
  have kb:(k:Int)≤1099511627776:=by have:=S1.out.cb;omega
  have ib:(i:Int)≤2199023256552:=by have:=S1.out.few;have:=IE.out;have:=HM.out;have:=HN.out;omega
  obtain⟨d,hd⟩:∃d,d=l.getD i 0:=⟨_,rfl⟩
  have DE:=Lh hd
  have db:(d:Int)≤1099511627776:=by have:=qZL HL.out i;omega
  clear hd
  by_cases hlt:i<n
  ·have hD:decide ((i:Int)<(n:Int))=true:=by simp;omega
   have hgo:=Lh (show o.length<l.length∨0<k from .inl (by rw [HN.out,←IE.out];exact hlt))
   go_wp2_with fail
   refine(qZT l A n c HN.out i _ (HR.out.keep B1.out)).mono ?_
   rintro e w1 ⟨rfl,rfl⟩
   rw[←DE.out]
   obtain⟨q,hq⟩:∃q,q=k+d:=⟨_,rfl⟩
   obtain⟨q0,hq0⟩:∃q0,q0=q % 256:=⟨_,rfl⟩
   obtain⟨q1,hq1⟩:∃q1,q1=q/256:=⟨_,rfl⟩
   have e1:(k:Int)+(d:Int)=(q:Int):=by omega
   have e2:(q:Int) % 256=(q0:Int):=by omega
   have e3:(q:Int)/256=(q1:Int):=by omega
   have qb:(q:Int)≤2199023255552:=by omega
   have ST:=Lh (show CarS l (o++[q0]) q1 by have:=S1.out.step HL.out hgo.out;rw [←IE.out,←DE.out,←hq,←hq0,←hq1]at this;exact this)
   have Q1:=Lh (show q1≤8589934592 by omega)
   have QK:=Lh (show ¬i<n→q1<k by
    intro h
    have e:d=0:=by rw [DE.out,kQa,List.getElem?_eq_none (by rw [HN.out];omega)];rfl
    have:=hgo.out.resolve_left (by rw [HN.out,←IE.out];exact h);omega)
   clear hq hq0 hq1
   go_wp2_with (refine qZp rfl NT.out (.tmp 21) (.tmp 24) rfl w.heap.size _ (NumV o) [.int .i64 (q0:Int)] (some ⟨_,0,none⟩) 1 1 rfl rfl rfl (O1.out.alloc _) (RdV.one (qQg (fr:=(0,0)) (qQk _ _ _ rfl) 0 rfl)) (by intro u hu;simp at hu;subst hu;rfl) ?c1 ?c2 ?c3 ?_)
   case c1=>have:=B1.out.size;simp;omega
   case c2=>have:=IE.out;rw [qQC];omega
   case c3=>have:=IE.out;rw [qQC];omega
   intro v1 w2 ho hg _
   have B2:=Lh (B1.out.alloc B1.out.size (.cells #[.int .i64 (q0:Int)] 3))
   have B3:=Lh (B2.out.trans (qQi hg B2.out.size (fun g e=>(O1.out.lt g e).1)))
   have O2:=Lh (show OwnV w2 w.heap.size 3 v1 (NumV (o++[q0])) by rw [qZk];exact ho)
   clear ho hg
   go_wp2_with fail
   go_roundw
   case rel=>exact⟨o++[q0],q1,O2.out,by go_num,by rw [kQj,←IE.out];go_num,ST.out,B3.out⟩
   case measure=>have:=Q1.out;have:=QK.out;simp [intOf];omega
  ·by_cases hk:0<k
   ·have hD:decide ((i:Int)<(n:Int))=false:=by simp;omega
    have hE:decide ((0:Int)<(k:Int))=true:=by simp;omega
    have hgo:=Lh (show o.length<l.length∨0<k from .inr hk)
    go_wp2_with fail
    refine(qZT l A n c HN.out i _ (HR.out.keep B1.out)).mono ?_
    rintro e w1 ⟨rfl,rfl⟩
    rw[←DE.out]
    obtain⟨q,hq⟩:∃q,q=k+d:=⟨_,rfl⟩
    obtain⟨q0,hq0⟩:∃q0,q0=q % 256:=⟨_,rfl⟩
    obtain⟨q1,hq1⟩:∃q1,q1=q/256:=⟨_,rfl⟩
    have e1:(k:Int)+(d:Int)=(q:Int):=by omega
    have e2:(q:Int) % 256=(q0:Int):=by omega
    have e3:(q:Int)/256=(q1:Int):=by omega
    have qb:(q:Int)≤2199023255552:=by omega
    have ST:=Lh (show CarS l (o++[q0]) q1 by have:=S1.out.step HL.out hgo.out;rw [←IE.out,←DE.out,←hq,←hq0,←hq1]at this;exact this)
    have Q1:=Lh (show q1≤8589934592 by omega)
    have QK:=Lh (show ¬i<n→q1<k by
     intro h
     have e:d=0:=by rw [DE.out,kQa,List.getElem?_eq_none (by rw [HN.out];omega)];rfl
     have:=hgo.out.resolve_left (by rw [HN.out,←IE.out];exact h);omega)
    clear hq hq0 hq1
    go_wp2_with (refine qZp rfl NT.out (.tmp 21) (.tmp 24) rfl w.heap.size _ (NumV o) [.int .i64 (q0:Int)] (some ⟨_,0,none⟩) 1 1 rfl rfl rfl (O1.out.alloc _) (RdV.one (qQg (fr:=(0,0)) (qQk _ _ _ rfl) 0 rfl)) (by intro u hu;simp at hu;subst hu;rfl) ?c1 ?c2 ?c3 ?_)
    case c1=>have:=B1.out.size;simp;omega
    case c2=>have:=IE.out;rw [qQC];omega
    case c3=>have:=IE.out;rw [qQC];omega
    intro v1 w2 ho hg _
    have B2:=Lh (B1.out.alloc B1.out.size (.cells #[.int .i64 (q0:Int)] 3))
    have B3:=Lh (B2.out.trans (qQi hg B2.out.size (fun g e=>(O1.out.lt g e).1)))
    have O2:=Lh (show OwnV w2 w.heap.size 3 v1 (NumV (o++[q0])) by rw [qZk];exact ho)
    clear ho hg
    go_wp2_with fail
    go_roundw
    case rel=>exact⟨o++[q0],q1,O2.out,by go_num,by rw [kQj,←IE.out];go_num,ST.out,B3.out⟩
    case measure=>have:=Q1.out;have:=QK.out;simp [intOf];omega
   ·have hD:decide ((i:Int)<(n:Int))=false:=by simp;omega
    have hE:decide ((0:Int)<(k:Int))=false:=by simp;omega
    go_wp2_with fail
    go_ret
    exact⟨_,o,rfl,O1.out,by have:=S1.out.done (by rw [HN.out,←IE.out];exact hlt) (by omega);rwa [HN.out]at this,B1.out⟩
def tabN (f:Nat→Nat) (m:Nat):List Nat:=(List.range m).map f
theorem qQQ (f:Nat→Nat) (m:Nat):(tabN f m).length=m:=by simp [tabN]
theorem qZ9 (f:Nat→Nat) (m:Nat):tabN f (m+1)=tabN f m++[f m]:=by simp [tabN,List.range_succ]
theorem qKa (f g:Nat→Nat):∀m,valB (tabN (fun j=>f j+g j) m)=valB (tabN f m)+valB (tabN g m)
 | 0=>rfl
 | m+1=>by
  rw[qZ9,qZ9,qZ9,qZc,qZc,qZc,qKa f g m,qQQ,qQQ,qQQ]
  simp only [valB]
  grind
theorem valB_tab (a:List Nat):∀m,a.length≤m→valB (tabN (fun j=>a.getD j 0) m)=valB a:=by
 have key:∀m,valB (tabN (fun j=>a.getD j 0) m)+256 ^ m*valB (a.drop m)=valB a:=by
  intro m
  induction m with
  | zero=>simp [tabN,valB]
  | succ m ih=>
   rw[qZ9,qZc,qQQ,←ih,qXm a m]
   simp only [valB,Nat.pow_succ]
   grind
 intro m h
 have:=key m
 rw[kQt h]at this
 simpa [valB]using this
theorem tabN_le {f:Nat→Nat} {B:Nat} (h:∀j,f j≤B) (m:Nat):∀d∈tabN f m,d≤B:=by
 intro d hd
 simp only [tabN,List.mem_map]at hd
 obtain⟨j,_,rfl⟩:=hd
 exact h j
theorem nsum_any (a b:List Nat) (ha:∀d∈a,d≤255) (hb:∀d∈b,d≤255) (A:Option Addr) (n c:Nat) (hn:a.length=n) (A':Option Addr) (n' c':Nat) (hn':b.length=n') (hm:n≤1000) (hm':n'≤1000) (w:World) (hR:RdV w A (NumV a)) (hR':RdV w A' (NumV b)) :
  Calls Tryz.prog 116 #[.slice A n c,.slice A' n' c'] w fun e w'=>∃v o,e=.returned v∧OwnV w' w.heap.size 3 v (NumV o)∧Digs o (valB a+valB b) (max n n')∧Below w.heap.size w w':=by
 have HA:=Lh ha
 have HB:=Lh hb
 have HN:=Lh hn
 have HN':=Lh hn'
 have HR:=Lh hR
 have HR':=Lh hR'
 have HM:=Lh hm
 have HM':=Lh hm'
 have NT:=Lh numT
 obtain⟨f,hf⟩:∃f:Nat→Nat,f=fun j=>a.getD j 0+b.getD j 0:=⟨_,rfl⟩
 have FE:=Lh hf
 have FB:=Lh (show ∀j,f j≤510 from fun j=>by rw [hf];have:=qZL ha j;have:=qZL hb j;show a.getD j 0+b.getD j 0≤510;omega)
 obtain⟨m,hmx⟩:∃m,m=max n n':=⟨_,rfl⟩
 rw[←hmx]
 have MX:=Lh hmx
 have M1:=Lh (show m≤1000 by omega)
 clear ha hb hn hn' hR hR' hm hm' hf hmx
 go_enter Tryz.func116,Tryz.ntmps116
 go_wp2_with fail
 go_loopw [5,6] (fun u i wr=>∃k:Nat,k≤m∧OwnV wr w.heap.size 3 u (NumV (tabN f k))∧i=.int .i64 (k:Int)∧Below w.heap.size w wr) (fun _ i _=>2000-(intOf i).toNat)
 case atStart=>exact⟨0,by omega,OwnV.nil _ _ _,rfl,Below.refl _ _⟩
 case round=>
  obtain⟨k,hk,ho,rfl,hb⟩:=hrel
  have KM:=Lh hk
  have O1:=Lh ho
  have B1:=Lh hb
  clear ho hb hk
  obtain⟨x,hx⟩:∃x,x=a.getD k 0:=⟨_,rfl⟩
  obtain⟨y,hy⟩:∃x,x=b.getD k 0:=⟨_,rfl⟩
  have X:=Lh hx
  have Y:=Lh hy
  have FK:=Lh (show f k=x+y by rw [FE.out,hx,hy])
  have xb:(x:Int)≤255:=by have:=qZL HA.out k;omega
  have yb:(y:Int)≤255:=by have:=qZL HB.out k;omega
  have kb:(k:Int)≤1000:=by have:=KM.out;have:=M1.out;omega
  clear hx hy
  by_cases h1:k<n
  ·have hD:decide ((k:Int)<(n:Int))=true:=by simp;omega
   have KL:=Lh (show k<m by have:=MX.out;omega)
   go_wp2_with fail
   refine(qZT a A n c HN.out k _ (HR.out.keep B1.out)).mono ?_
   rintro e w1 ⟨rfl,rfl⟩
   rw[←X.out]
   go_wp2_with fail
   refine(qZT b A' n' c' HN'.out k _ (HR'.out.keep B1.out)).mono ?_
   rintro e w1 ⟨rfl,rfl⟩
   rw[←Y.out]
   obtain⟨q,hq⟩:∃q,q=x+y:=⟨_,rfl⟩
   have e1:(x:Int)+(y:Int)=(q:Int):=by omega
   have Q:=Lh (show q=f k by rw [hq,FK.out])
   clear hq
   go_wp2_with (refine qZp rfl NT.out (.tmp 19) (.tmp 27) rfl w.heap.size _ (NumV (tabN f k)) [.int .i64 (q:Int)] (some ⟨_,0,none⟩) 1 1 rfl rfl rfl (O1.out.alloc _) (RdV.one (qQg (fr:=(0,0)) (qQk _ _ _ rfl) 0 rfl)) (by intro u hu;simp at hu;subst hu;rfl) ?c1 ?c2 ?c3 ?_)
   case c1=>have:=B1.out.size;simp;omega
   case c2=>rw [qQC,qQQ];omega
   case c3=>rw [qQC,qQQ];omega
   intro v1 w2 ho hg _
   have B2:=Lh (B1.out.alloc B1.out.size (.cells #[.int .i64 (q:Int)] 3))
   have B3:=Lh (B2.out.trans (qQi hg B2.out.size (fun g e=>(O1.out.lt g e).1)))
   have O2:=Lh (show OwnV w2 w.heap.size 3 v1 (NumV (tabN f (k+1))) by rw [qZ9,qZk,←Q.out];exact ho)
   clear ho hg
   go_wp2_with fail
   go_roundw
   case rel=>exact⟨k+1,by have:=KL.out;omega,O2.out,by go_num,B3.out⟩
   case measure=>simp [intOf]<;>omega
  ·have hD:decide ((k:Int)<(n:Int))=false:=by simp;omega
   by_cases h2:k<n'
   ·have hE:decide ((k:Int)<(n':Int))=true:=by simp;omega
    have KL:=Lh (show k<m by have:=MX.out;omega)
    go_wp2_with fail
    refine(qZT a A n c HN.out k _ (HR.out.keep B1.out)).mono ?_
    rintro e w1 ⟨rfl,rfl⟩
    rw[←X.out]
    go_wp2_with fail
    refine(qZT b A' n' c' HN'.out k _ (HR'.out.keep B1.out)).mono ?_
    rintro e w1 ⟨rfl,rfl⟩
    rw[←Y.out]
    obtain⟨q,hq⟩:∃q,q=x+y:=⟨_,rfl⟩
    have e1:(x:Int)+(y:Int)=(q:Int):=by omega
    have Q:=Lh (show q=f k by rw [hq,FK.out])
    clear hq
    go_wp2_with (refine qZp rfl NT.out (.tmp 19) (.tmp 27) rfl w.heap.size _ (NumV (tabN f k)) [.int .i64 (q:Int)] (some ⟨_,0,none⟩) 1 1 rfl rfl rfl (O1.out.alloc _) (RdV.one (qQg (fr:=(0,0)) (qQk _ _ _ rfl) 0 rfl)) (by intro u hu;simp at hu;subst hu;rfl) ?c1 ?c2 ?c3 ?_)
    case c1=>have:=B1.out.size;simp;omega
    case c2=>rw [qQC,qQQ];omega
    case c3=>rw [qQC,qQQ];omega
    intro v1 w2 ho hg _
    have B2:=Lh (B1.out.alloc B1.out.size (.cells #[.int .i64 (q:Int)] 3))
    have B3:=Lh (B2.out.trans (qQi hg B2.out.size (fun g e=>(O1.out.lt g e).1)))
    have O2:=Lh (show OwnV w2 w.heap.size 3 v1 (NumV (tabN f (k+1))) by rw [qZ9,qZk,←Q.out];exact ho)
    clear ho hg
    go_wp2_with fail
    go_roundw
    case rel=>exact⟨k+1,by have:=KL.out;omega,O2.out,by go_num,B3.out⟩
    case measure=>simp [intOf]<;>omega
   ·have hE:decide ((k:Int)<(n':Int))=false:=by simp;omega
    have KE:=Lh (show k=m by have:=MX.out;have:=KM.out;omega)
    go_wp2_with fail
    obtain⟨A5,c5,rfl,hr5,hl5,_,_⟩:=O1.out.read
    rw[qQC,qQQ]
    refine(qYd (tabN f k) (tabN_le (fun j=>by have:=FB.out j;omega) k) A5 k c5 (qQQ _ _) (by have:=KM.out;have:=M1.out;omega) _ hr5).mono ?_
    rintro e w2 ⟨v,o,rfl,ho,hd,hb⟩
    have VE:=Lh (show valB (tabN f k)=valB a+valB b by
     rw[KE.out,FE.out,qKa,valB_tab a m (by have:=MX.out;have:=HN.out;omega),valB_tab b m (by have:=MX.out;have:=HN'.out;omega)])
    have O2:=Lh (ho.mono B1.out.size)
    have D2:=Lh hd
    have B2:=Lh (B1.out.trans (hb.mono B1.out.size))
    clear ho hd hb
    go_wp2_with fail
    go_ret
    exact⟨_,o,rfl,O2.out,by have:=D2.out;rw [VE.out,KE.out]at this;exact this,B2.out⟩
theorem valB_set (l:List Nat) (j x:Nat) (hj:j<l.length):valB (l.set j (l.getD j 0+x))=valB l+256 ^ j*x:=by
 have e:l=l.take j++(l.getD j 0::l.drop (j+1)):=by
  have h1:l.drop j=l.getD j 0::l.drop (j+1):=by rw [List.drop_eq_getElem_cons hj];simp [kQa,hj]
  rw[←h1,List.take_append_drop]
 have e2:l.set j (l.getD j 0+x)=l.take j++((l.getD j 0+x)::l.drop (j+1)):=List.set_eq_take_append_cons_drop.trans (if_pos hj)
 rw[e2,qZc,valB]
 conv=>rhs;rw [e]
 rw[qZc,valB,kQp,Nat.min_eq_left (by omega)]
 grind
theorem valB_take (l:List Nat) (i:Nat) (hi:i<l.length):valB (l.take (i+1))=valB (l.take i)+256 ^ i*l.getD i 0:=by
 rw[List.take_add_one,kQi hi]
 rw[qZc,kQp,Nat.min_eq_left (by omega)]
 simp [valB,kQa,hi]
structure TimS (a b acc:List Nat) (i k:Nat):Prop where
 val:valB acc=valB (a.take i)*valB b+256 ^ i*(a.getD i 0*valB (b.take k))
 len:acc.length=a.length+b.length
 bd:∀j,acc.getD j 0≤65025*(1000*i+k)
theorem TimS.start (a b:List Nat):TimS a b (kQc (a.length+b.length) 0) 0 0:=by
 have z:∀n,valB (kQc n 0)=0:=fun n=>by
  induction n with
  | zero=>rfl
  | succ n ih=>rw [List.replicate_succ,valB,ih]
 refine⟨by simp [z,valB],by simp,fun j=>?_⟩
 rw[kQa,List.getElem?_replicate]
 split<;>simp
theorem TimS.step {a b acc:List Nat} {i k:Nat} (h:TimS a b acc i k) (hi:i<a.length) (hk:k<b.length) (ha:∀d∈a,d≤255) (hb:∀d∈b,d≤255):TimS a b (acc.set (i+k) (acc.getD (i+k) 0+a.getD i 0*b.getD k 0)) i (k+1) where
 val:=by
  rw[valB_set _ _ _ (by rw [h.len];omega),h.val,valB_take b k hk,Nat.pow_add]
  grind
 len:=by rw [List.length_set,h.len]
 bd:=fun j=>by
  have h1:=h.bd j
  have h2:=h.bd (i+k)
  have h3:a.getD i 0*b.getD k 0≤255*255:=Nat.mul_le_mul (qZL ha i) (qZL hb k)
  rw[kQa,List.getElem?_set]
  split
  ·split
   ·simp only [Option.getD_some]
    omega
   ·simp
  ·rw [←kQa]
   omega
theorem TimS.next {a b acc:List Nat} {i:Nat} (h:TimS a b acc i b.length) (hi:i<a.length) (hb:b.length≤1000):TimS a b acc (i+1) 0 where
 val:=by
  rw[h.val,List.take_length,valB_take a i hi]
  simp only [List.take_zero,valB,Nat.mul_zero,Nat.add_zero]
  grind
 len:=h.len
 bd:=fun j=>by have:=h.bd j;omega
theorem TimS.done {a b acc:List Nat} (h:TimS a b acc a.length 0):valB acc=valB a*valB b:=by
 have:=h.val
 rw[List.take_length]at this
 simpa [valB]using this
def WI (l:List Nat):Array Value:=(NumV l).toArray
theorem WI_get (l:List Nat) (i:Nat) (h:i<l.length):(WI l)[i]?=some (.int .i64 ((l.getD i 0:Nat):Int)):=by simp [WI,NumV,h]
theorem WI_set (l:List Nat) (i x:Nat):(WI l).setIfInBounds i (.int .i64 (x:Int))=WI (l.set i x):=by simp [WI,NumV,List.map_set]
theorem made_WI (n:Nat):madeCells #[Value.int .i64 0] n=WI (kQc n 0):=by
 rw[←Array.toArray_toList (xs:=madeCells #[Value.int .i64 0] n),toList_madeCells_one]
 simp [WI,NumV]
theorem makeI_run (n:Nat) (hn:n≤1000000) (W:World):(Instr.makeSlice 214 (.int .i64 (n:Int)) (.int .i64 (n:Int))).run Tryz.prog W=.ok (.slice (some ⟨W.heap.size,0,none⟩) n n) (W.alloc (.cells (WI (kQc n 0)) 3)):=by
 have h:=Go.run_make_row' (P:=Tryz.prog) 214 3 (.int .i64 0) 8 Tryz.underlying214 (by kernel_rfl) rfl .i64 .i64 n (by omega) (by omega) W
 rw[made_WI]at h
 exact h
theorem RdV.rowI {w:World} {g:Nat} {l:List Nat} {t:TypeId} {fr:Nat×Nat} (h:w.heap[g]?=Option.some (.cells (WI l) t fr)):RdV w (Option.some ⟨g,0,none⟩) (NumV l):=RdV.row h
structure OwI (w:World) (g:Nat) (l:List Nat) (W:World):Prop where
 b:W.heap[g]?=some (.cells (WI l) 3 (0,0))
 hg:w.heap.size≤g
 bel:Below w.heap.size w W
theorem OwI.keep {w W W':World} {g:Nat} {l:List Nat} (h:OwI w g l W) (hb:Below W.heap.size W W'):OwI w g l W':=⟨qQb hb (qQe h.b) h.b,h.hg,h.bel.trans (hb.mono h.bel.size)⟩
theorem OwI.set {w W:World} {g:Nat} {l:List Nat} (h:OwI w g l W) (i x:Nat):OwI w g (l.set i x) (W.setCell ⟨g,i,none⟩ (.int .i64 (x:Int))) where
 b:=by rw [heap_setCell_same _ _ _ _ _ _ h.b,WI_set]
 hg:=h.hg
 bel:=h.bel.trans (qQi (qQF (World.grownBy.refl W (some g)) _ _) h.bel.size (by rintro k ⟨⟩;exact h.hg))
theorem muladd_ex (u x y:Nat) (hx:x≤255) (hy:y≤255) (hu:u≤1099511627776):∃z:Nat,Hid (z=u+x*y)∧IntKind.i64.wrap ((u:Int)+IntKind.i64.wrap ((x:Int)*(y:Int)))=(z:Int):=by
 refine⟨_,rfl,?_⟩
 have h:x*y≤255*255:=Nat.mul_le_mul hx hy
 rw[←Int.natCast_mul]
 generalize x*y=m at *
 simp only [IntKind.wrap_i64]
 omega
theorem ntim_any (a b:List Nat) (ha:∀d∈a,d≤255) (hb:∀d∈b,d≤255) (A:Option Addr) (n c:Nat) (hn:a.length=n) (A':Option Addr) (n' c':Nat) (hn':b.length=n') (hm:n≤400) (hm':n'≤400) (w:World) (hR:RdV w A (NumV a)) (hR':RdV w A' (NumV b)) :
  Calls Tryz.prog 115 #[.slice A n c,.slice A' n' c'] w fun e w'=>∃v o,e=.returned v∧OwnV w' w.heap.size 3 v (NumV o)∧Digs o (valB a*valB b) (n+n')∧Below w.heap.size w w':=by
 have HA:=Lh ha
 have HB:=Lh hb
 have HN:=Lh hn
 have HN':=Lh hn'
 have HR:=Lh hR
 have HR':=Lh hR'
 have nb:(n:Int)≤400:=by omega
 have nb':(n':Int)≤400:=by omega
 obtain⟨N,hN⟩:∃N,N=n+n':=⟨_,rfl⟩
 have e1:(n:Int)+(n':Int)=(N:Int):=by omega
 have mk:=makeI_run N (by omega)
 have NE:=Lh hN
 have NB:=Lh (show n≤400∧n'≤400 from⟨hm,hm'⟩)
 obtain⟨i0,hi,hz0,hz1,hz2⟩:=info_parts (show(Tryz.prog.info? 3).map (fun i=>(i.zero,i.size,i.bytes))=some (some (.int .i64 0),1,8) by kernel_rfl)
 have I0:=Lh hi
 have I2:=Lh hz1
 clear ha hb hn hn' hR hR' hm hm' hN hi hz0 hz1 hz2
 go_enter Tryz.func115,Tryz.ntmps115
 go_upto_region 2 with fail
 clear e1 mk
 obtain⟨g,hg⟩:∃g,g=w.heap.size:=⟨_,rfl⟩
 obtain⟨w1,hw1⟩:∃w1,w1=w.alloc (.cells (WI (kQc N 0)) 3):=⟨_,rfl⟩
 have W1:=Lh (show OwI w g (kQc N 0) w1 by rw [hw1];exact⟨qQk _ _ _ hg,by omega,(Below.refl _ _).alloc (kQh _) _⟩)
 rw[←hg,←hw1]
 clear hg hw1
 go_wp2_with fail
 go_loopw [6,7] (fun i _ wr=>∃(j:Nat) (acc:List Nat),j≤n∧i=.int .i64 (j:Int)∧TimS a b acc j 0∧OwI w g acc wr) (fun i _ _=>n-(intOf i).toNat)
 case atStart=>exact⟨0,_,by omega,rfl,by have:=TimS.start a b;rw [HN.out,HN'.out,←NE.out]at this;exact this,W1.out⟩
 case round=>
  obtain⟨j,acc,hj,rfl,ht,hw⟩:=hrel
  have T1:=Lh ht
  have W2:=Lh hw
  clear ht hw W1
  by_cases hlt:j<n
  ·have hD:decide ((j:Int)<(n:Int))=true:=by simp;omega
   have JN:=Lh hlt
   have jb:(j:Int)≤400:=by omega
   go_wp2_with fail
   clear hlt hj
   go_loopw [7] (fun u wq=>∃(k:Nat) (acc':List Nat),k≤n'∧u=.int .i64 (k:Int)∧TimS a b acc' j k∧OwI w g acc' wq) (fun u _=>n'-(intOf u).toNat)
   case atStart=>exact⟨0,acc,by omega,rfl,T1.out,W2.out⟩
   case round=>
    obtain⟨k,ac,hk,rfl,ht,hw⟩:=hrel
    have T2:=Lh ht
    have W3:=Lh hw
    clear ht hw T1 W2 hD
    by_cases hlk:k<n'
    ·have hE:decide ((k:Int)<(n':Int))=true:=by simp;omega
     have KN:=Lh hlk
     have kb:(k:Int)≤400:=by omega
     go_upto_region 8 with fail
     have W4:=Lh (W3.out.keep (Below.refl _ _).drew)
     obtain⟨ba,oa,rfl,hca⟩:=HR.out j _ (qJR a j (by rw [HN.out];exact JN.out))
     obtain⟨bb,ob,rfl,hcb⟩:=HR'.out k _ (qJR b k (by rw [HN'.out];exact KN.out))
     obtain⟨x,hx⟩:∃x,x=a.getD j 0:=⟨_,rfl⟩
     obtain⟨y,hy⟩:∃x,x=b.getD k 0:=⟨_,rfl⟩
     obtain⟨u,hu⟩:∃x,x=ac.getD (j+k) 0:=⟨_,rfl⟩
     have LA:=Lh (show j+k<ac.length by rw [T2.out.len,HN.out,HN'.out];have:=JN.out;have:=KN.out;omega)
     have ST:=Lh (show TimS a b (ac.set (j+k) (u+x*y)) j (k+1) by rw [hx,hy,hu];exact T2.out.step (by rw [HN.out];exact JN.out) (by rw [HN'.out];exact KN.out) HA.out HB.out)
     rw[←hx]at hca
     rw[←hy]at hcb
     have CA:=Lh (fun(W:World) (hW:OwI w g ac W)=>qVS (qQJ hW.bel) hca (by simp))
     have CB:=Lh (fun(W:World) (hW:OwI w g ac W)=>qVS (qQJ hW.bel) hcb (by simp))
     have CU:=Lh (fun(W:World) (hW:OwI w g ac W)=>(show W.cell? ⟨g,0+(j+k),none⟩=some (.int .i64 (u:Int)) by rw [Nat.zero_add,hu];exact qQg hW.b (j+k) (WI_get _ _ LA.out)))
     have ei:Hid (IntKind.i64.wrap ((j:Int)+(k:Int))=((j+k:Nat):Int)):=by show _=_;rw [IntKind.wrap_i64];omega
     have NL:=Lh (show j+k<N by have:=NE.out;have:=JN.out;have:=KN.out;omega)
     obtain⟨z,hz,e1⟩:=muladd_ex u x y (by rw [hx];exact qZL HA.out j) (by rw [hy];exact qZL HB.out k) (by have:=T2.out.bd (j+k);rw [←hu]at this;have:=NB.out;have:=JN.out;have:=KN.out;omega)
     clear hca hcb hx hy hu hlk hk
     refine qZI (OwI w g ac) 21 [(true,0),(true,1),(true,2),(true,3),(true,4),(true,5),(true,6),(true,7),(true,8),(true,9),(true,10),(true,11),(true,12),(true,13),(true,14),(true,15),(true,16),(true,17),(true,18),(true,19),(true,20)] _ (by kernel_rfl) (by kernel_rfl) rfl (fun _ _ d _ _ h=>by cases d<;>exact h) ?_
     simp only [kQl,kQm,kQd,kQg,kQe,kQo]
     refine qQB (by rfl) W4.out (fun W hW=>by go_simp;rfl) ?_
     simp only [Act.put,pq1,pq2,pq3]
     refine qQB (by rfl) W4.out (fun W hW=>by go_simp;rfl) ?_
     simp only [Act.put,pq1,pq2,pq3]
     refine qQB (by rfl) W4.out (fun W hW=>by go_simp;rfl) ?_
     simp only [Act.put,pq1,pq2,pq3]
     refine qQB (by rfl) W4.out (fun W hW=>by go_simp;rfl) ?_
     simp only [Act.put,pq1,pq2,pq3]
     refine qQB (by rfl) W4.out (fun W hW=>by go_simp;rfl) ?_
     simp only [Act.put,pq1,pq2,pq3]
     refine qQB (by rfl) W4.out (fun W hW=>by go_simp;rfl) ?_
     simp only [Act.put,pq1,pq2,pq3]
     refine qQB (by rfl) W4.out (fun W hW=>by go_simp;rfl) ?_
     simp only [Act.put,pq1,pq2,pq3]
     refine qQB (by rfl) W4.out (fun W hW=>by go_simp;rfl) ?_
     simp only [Act.put,pq1,pq2,pq3]
     refine qQB (by rfl) W4.out (fun W hW=>qZU 214 (.tmp 30) (.tmp 33) rfl 3 Tryz.underlying214 I0.out I2.out g 0 N N (j+k) NL.out .i64 _ ei.out rfl rfl W) ?_
     simp only [Act.put,pq1,pq2,pq3]
     refine qQB (by rfl) W4.out (fun W hW=>qQq 3 (.tmp 34) rfl _ Tryz.underlying3 rfl rfl (CU.out W hW)) ?_
     simp only [Act.put,pq1,pq2,pq3]
     refine qQB (by rfl) W4.out (fun W hW=>by go_simp;rfl) ?_
     simp only [Act.put,pq1,pq2,pq3]
     refine qQB (by rfl) W4.out (fun W hW=>by go_simp;rfl) ?_
     simp only [Act.put,pq1,pq2,pq3]
     refine qQB (by rfl) W4.out (fun W hW=>qZU 214 (.tmp 36) (.tmp 37) rfl 3 Tryz.underlying214 I0.out I2.out ba oa n c j JN.out .i64 _ rfl rfl rfl W) ?_
     simp only [Act.put,pq1,pq2,pq3]
     refine qQB (by rfl) W4.out (fun W hW=>qQq 3 (.tmp 38) rfl _ Tryz.underlying3 rfl rfl (CA.out W hW)) ?_
     simp only [Act.put,pq1,pq2,pq3]
     refine qQB (by rfl) W4.out (fun W hW=>by go_simp;rfl) ?_
     simp only [Act.put,pq1,pq2,pq3]
     refine qQB (by rfl) W4.out (fun W hW=>by go_simp;rfl) ?_
     simp only [Act.put,pq1,pq2,pq3]
     refine qQB (by rfl) W4.out (fun W hW=>qZU 214 (.tmp 40) (.tmp 41) rfl 3 Tryz.underlying214 I0.out I2.out bb ob n' c' k KN.out .i64 _ rfl rfl rfl W) ?_
     simp only [Act.put,pq1,pq2,pq3]
     refine qQB (by rfl) W4.out (fun W hW=>qQq 3 (.tmp 42) rfl _ Tryz.underlying3 rfl rfl (CB.out W hW)) ?_
     simp only [Act.put,pq1,pq2,pq3]
     refine qQB (by rfl) W4.out (fun W hW=>by go_simp;rfl) ?_
     simp only [Act.put,pq1,pq2,pq3]
     refine qQB (by rfl) W4.out (fun W hW=>by go_simp;rfl) ?_
     simp only [Act.put,pq1,pq2,pq3]
     clear e1
     refine qQB (by rfl) W4.out (fun W hW=>qZU 214 (.tmp 26) (.tmp 29) rfl 3 Tryz.underlying214 I0.out I2.out g 0 N N (j+k) NL.out .i64 _ ei.out rfl rfl W) ?_
     simp only [Act.put,pq1,pq2,pq3]
     simp only [Nat.zero_add]
     have f4:=qQz W4.out.b (j+k)
     have a4:=qQg W4.out.b (j+k) (WI_get _ _ LA.out)
     refine qX8 (fun K hK=>?_)
     go_simp
     have H4:=Lh ((W3.out.set (j+k) z).keep (Below.refl _ _).drew)
     obtain⟨w4,hw4⟩:∃w4,w4=(wr.setCell ⟨g,j+k,none⟩ (.int .i64 (z:Int))).drew:=⟨_,rfl⟩
     rw[←hw4]at H4 ⊢
     clear hw4 f4 a4 W4 W3
     refine hK.out _ _ ?_
     clear hK K
     go_wp2_with fail
     go_roundw
     case rel=>exact⟨k+1,_,by have:=KN.out;omega,by go_num,by rw [←hz.out]at ST;exact ST.out,H4.out⟩
     case measure=>have:=KN.out;simp [intOf]<;>omega
    ·have hE:decide ((k:Int)<(n':Int))=false:=by simp;omega
     have KE:=Lh (show k=b.length by rw [HN'.out];omega)
     go_wp2_with fail
     go_roundw
     case rel=>exact⟨j+1,ac,by have:=JN.out;omega,by go_num,by have:=T2.out;rw [KE.out]at this;exact this.next (by rw [HN.out];exact JN.out) (by rw [HN'.out];omega),W3.out⟩
     case measure=>have:=JN.out;simp [intOf]<;>omega
  ·have hD:decide ((j:Int)<(n:Int))=false:=by simp;omega
   have JE:=Lh (show j=a.length by rw [HN.out];omega)
   go_wp2_with fail
   have DV:=Lh (show valB acc=valB a*valB b by have:=T1.out;rw [JE.out]at this;exact this.done)
   have DL:=Lh (show acc.length=N by rw [T1.out.len,HN.out,HN'.out,NE.out])
   refine(qYd acc ?dl (some ⟨g,0,none⟩) N N DL.out (by have:=NB.out;have:=NE.out;omega) _ (RdV.rowI W2.out.b)).mono ?_
   case dl=>
    intro d hd
    obtain⟨i,hi,rfl⟩:=List.mem_iff_getElem.1 hd
    have h1:=T1.out.bd i
    have h2:=NB.out
    rw[kQa,kQi hi,Option.getD_some]at h1
    omega
   rintro e w2 ⟨v,o,rfl,ho,hd,hb⟩
   rw[DV.out]at hd
   have O2:=Lh (ho.mono W2.out.bel.size)
   have D2:=Lh hd
   have B2:=Lh (W2.out.bel.trans (hb.mono W2.out.bel.size))
   clear ho hd hb
   go_wp2_with fail
   go_ret
   exact⟨_,o,rfl,O2.out,by have:=D2.out;rwa [NE.out]at this,B2.out⟩
theorem qKE (l:List Nat) (h:∀d∈l,d≤255):valB l<256 ^ l.length:=by
 induction l with
 | nil=>simp [valB]
 | cons d l ih=>
  have h1:=ih (fun x hx=>h x (by simp [hx]))
  have h2:=h d (by simp)
  rw[valB,List.length_cons,Nat.pow_succ]
  omega
theorem qXL (l:List Nat) (i:Nat):valB l=valB (tabN (fun j=>l.getD j 0) i)+256 ^ i*valB (l.drop i):=by
 induction i with
 | zero=>simp [tabN,valB]
 | succ m ih=>
  rw[ih,qZ9,qZc,qQQ,qXm l m]
  simp only [valB,Nat.pow_succ]
  grind
theorem tab_lt (l:List Nat) (h:∀d∈l,d≤255) (i:Nat):valB (tabN (fun j=>l.getD j 0) i)<256 ^ i:=by
 have:=qKE (tabN (fun j=>l.getD j 0) i) (tabN_le (fun j=>qZL h j) i)
 rwa [qQQ]at this
theorem below_at (a b:List Nat) (ha:∀d∈a,d≤255) (hb:∀d∈b,d≤255) (i:Nat) (hhi:valB (a.drop (i+1))=valB (b.drop (i+1))) (hne:a.getD i 0≠b.getD i 0):(valB a<valB b)↔(a.getD i 0<b.getD i 0):=by
 rw[qXL a i,qXL b i,qXm a i,qXm b i,hhi]
 have h1:=tab_lt a ha i
 have h2:=tab_lt b hb i
 generalize valB (tabN (fun j=>a.getD j 0) i)=x at *
 generalize valB (tabN (fun j=>b.getD j 0) i)=y at *
 generalize valB (b.drop (i+1))=z at *
 generalize a.getD i 0=p at *
 generalize b.getD i 0=q at *
 generalize 256 ^ i=m at *
 rw[Nat.mul_add,Nat.mul_add]
 generalize m*(256*z)=t
 constructor
 ·intro h
  rcases Nat.lt_or_ge p q with h3|h3
  ·exact h3
  ·exfalso
   have h4:q+1≤p:=by omega
   have h5:=Nat.mul_le_mul (kQh m) h4
   rw[Nat.mul_add,Nat.mul_one]at h5
   omega
 ·intro h
  have h4:p+1≤q:=h
  have h5:=Nat.mul_le_mul (kQh m) h4
  rw[Nat.mul_add,Nat.mul_one]at h5
  omega
def qKh:List Nat:=[251,255,255,255,255,255,255,255,255,255,255,255,255,255,255,255,3]
theorem qJ4:valB qKh=PN:=by decide +kernel
theorem qYz:∀d∈qKh,d≤255:=by decide
structure LesS (a b o:List Nat) (c:Nat):Prop where
 val:valB (tabN (fun j=>a.getD j 0) o.length)+256 ^ o.length*c=valB o+valB (tabN (fun j=>b.getD j 0) o.length)
 dig:∀d∈o,d≤255
 cb:c≤1
theorem LesS.start (a b:List Nat):LesS a b [] 0:=⟨by simp [tabN,valB],by simp,by omega⟩
theorem LesS.step {a b o:List Nat} {c:Nat} (h:LesS a b o c) (ha:∀d∈a,d≤255) (hb:∀d∈b,d≤255) (d c':Nat) (hd:(d:Int)=(a.getD o.length 0:Int)-(b.getD o.length 0:Int)-(c:Int)+256*(c':Int)) (hd2:d≤255) (hc:c'≤1):LesS a b (o++[d]) c' where
 val:=by
  rw[kQj,List.length_singleton,qZ9,qZ9,qZc,qZc,qZc,qQQ,qQQ,Nat.pow_succ]
  have h1:=h.val
  simp only [valB]
  generalize valB (tabN (fun j=>a.getD j 0) o.length)=x at *
  generalize valB (tabN (fun j=>b.getD j 0) o.length)=y at *
  generalize valB o=z at *
  generalize a.getD o.length 0=p at *
  generalize b.getD o.length 0=q at *
  generalize 256 ^ o.length=m at *
  have h2:p+256*c'=d+q+c:=by omega
  have h3:m*(p+256*c')=m*(d+q+c):=by rw [h2]
  grind
 dig:=by
  intro x hx
  rcases List.mem_append.1 hx with hx|hx
  ·exact h.dig x hx
  ·simp at hx;omega
 cb:=hc
theorem LesS.done {a b o:List Nat} {c:Nat} (h:LesS a b o c) (hl:o.length=a.length) (hle:valB b≤valB a) (ha:∀d∈a,d≤255):valB o=valB a-valB b:=by
 have h1:=h.val
 have h2:=qXL b o.length
 have h3:=qXL a o.length
 have h4:a.drop o.length=[]:=kQt (by omega)
 rw[h4]at h3
 have h5:=qKE o h.dig
 have h6:=qKE a ha
 rw[←hl]at h6
 have h7:(valB []:Nat)=0:=rfl
 rw[h7,Nat.mul_zero,Nat.add_zero]at h3
 rw[←h3]at h1
 have hcb:=h.cb
 generalize valB (tabN (fun j=>b.getD j 0) o.length)=y at *
 have h8:valB (b.drop o.length)=0:=by
  rcases Nat.eq_zero_or_pos (valB (b.drop o.length))with h9|h9
  ·exact h9
  ·exfalso
   have:=Nat.le_mul_of_pos_right (256 ^ o.length) h9
   omega
 rw[h8,Nat.mul_zero,Nat.add_zero]at h2
 obtain rfl|rfl:c=0∨c=1:=by omega
 ·omega
 ·omega
theorem own_built (W:World) (e:TypeId) (x:Value) {base:Nat} (hb:base≤W.heap.size):OwnV (W.alloc (.cells #[x] e)) base e (.slice (some ⟨W.heap.size,0,none⟩) 1 1) [x]:=
 ⟨rfl,.inr ⟨W.heap.size,1,#[x],rfl,hb,qQk _ _ _ rfl,kQh _,by decide,rfl,rfl⟩⟩
theorem prime_any (w:World):Calls Tryz.prog 131 #[] w fun e w'=>∃v,e=.returned v∧OwnV w' w.heap.size 3 v (NumV qKh)∧Below w.heap.size w w':=by
 have NT:=Lh numT
 go_enter Tryz.func131,Tryz.ntmps131
 go_wp2_with fail
 obtain⟨w1,hw1⟩:∃w1,w1=w.alloc (.cells #[.int .i64 251] 3):=⟨_,rfl⟩
 have O0:=Lh (show OwnV w1 w.heap.size 3 (.slice (some ⟨w.heap.size,0,none⟩) 1 1) (NumV [251]) by rw [hw1];exact own_built w 3 _ (kQh _))
 have S0:=Lh (show Below w.heap.size w w1 by rw [hw1];exact(Below.refl _ _).alloc (kQh _) _)
 rw[←hw1]
 clear hw1
 go_loopw [1] (fun u wr=>∃k:Nat,k≤15∧OwnV wr w.heap.size 3 u (NumV (251::kQc k 255))∧Below w.heap.size w wr) (fun u _=>16-lenOf u)
 case atStart=>exact⟨0,by omega,O0.out,S0.out⟩
 case round=>
  obtain⟨k,hk,ho,hb⟩:=hrel
  have K:=Lh hk
  have O:=Lh ho
  have S:=Lh hb
  obtain⟨A2,c2,hu,_⟩:=ho.read
  obtain⟨m,hm⟩:∃m,m=k+1:=⟨_,rfl⟩
  have hl:(NumV (251::kQc k 255)).length=m:=by rw [qQC,hm];simp
  rw[hl]at hu
  have HL:=Lh hl
  have ME:=Lh hm
  have mb:(m:Int)≤16:=by omega
  rw[hu]at O ⊢
  clear hk ho hb hu hl hm
  by_cases hlt:m<16
  ·have hD:decide ((m:Int)<16)=true:=by simp;omega
   have M16:=Lh hlt
   clear hlt
   go_wp2_with (refine qZp rfl NT.out (.tmp 6) (.tmp 7) rfl w.heap.size _ (NumV (251::kQc k 255)) [.int .i64 255] (some ⟨wr.heap.size,0,none⟩) 1 1 rfl rfl rfl (O.out.alloc _) (RdV.one (qQg (fr:=(0,0)) (qQk wr _ _ rfl) 0 rfl)) (by intro u hu;simp at hu;subst hu;rfl) ?c1 ?c2 ?c3 ?_)
   case c1=>have:=S.out.size;rw [qQD];omega
   case c2=>have:=HL.out;have:=M16.out;omega
   case c3=>have:=HL.out;have:=M16.out;omega
   intro v2 w2 ho hg _
   have B2:Below w.heap.size w (wr.alloc (.cells #[.int .i64 255] 3)):=S.out.alloc S.out.size _
   have S2:=Lh (B2.trans (qQi hg (by rw [qQD];have:=S.out.size;omega) (fun q e=>(O.out.lt q e).1)))
   have O2:=Lh (show OwnV w2 w.heap.size 3 v2 (NumV (251::kQc (k+1) 255)) by rw [List.replicate_succ',←List.cons_append,qZk];exact ho)
   have VL:=Lh (show lenOf v2=m+1 by
    obtain⟨A3,c3,e3,_⟩:=O2.out.read
    rw[e3]
    show(NumV (251::kQc (k+1) 255)).length=m+1
    rw[qQC,ME.out];simp)
   clear ho hg B2 hD
   go_wp2_with fail
   go_roundw
   case rel=>exact⟨k+1,by have:=M16.out;have:=ME.out;omega,O2.out,S2.out⟩
   case measure=>rw [VL.out];show 16-(m+1)<16-m;have:=M16.out;omega
  ·have hD:decide ((m:Int)<16)=false:=by simp;omega
   have KE:=Lh (show k=15 by have:=ME.out;have:=K.out;omega)
   clear hlt
   go_wp2_with (refine qZp rfl NT.out (.tmp 9) (.tmp 10) rfl w.heap.size _ (NumV (251::kQc k 255)) [.int .i64 3] (some ⟨wr.heap.size,0,none⟩) 1 1 rfl rfl rfl (O.out.alloc _) (RdV.one (qQg (fr:=(0,0)) (qQk wr _ _ rfl) 0 rfl)) (by intro u hu;simp at hu;subst hu;rfl) ?d1 ?d2 ?d3 ?_)
   case d1=>have:=S.out.size;rw [qQD];omega
   case d2=>have:=HL.out;have:=ME.out;have:=K.out;omega
   case d3=>have:=HL.out;have:=ME.out;have:=K.out;omega
   intro v2 w2 ho hg _
   have B2:Below w.heap.size w (wr.alloc (.cells #[.int .i64 3] 3)):=S.out.alloc S.out.size _
   have S2:=Lh (B2.trans (qQi hg (by rw [qQD];have:=S.out.size;omega) (fun q e=>(O.out.lt q e).1)))
   have O2:=Lh (show OwnV w2 w.heap.size 3 v2 (NumV qKh) by rw [KE.out]at ho;exact ho)
   clear ho hg B2 hD
   go_wp2_with fail
   go_ret
   exact⟨_,rfl,O2.out,S2.out⟩
theorem below_any (a b:List Nat) (ha:∀d∈a,d≤255) (hb:∀d∈b,d≤255) (A:Option Addr) (n c:Nat) (hn:a.length=n) (A':Option Addr) (n' c':Nat) (hn':b.length=n') (hm:n≤1000) (hm':n'≤1000) (w:World) (hR:RdV w A (NumV a)) (hR':RdV w A' (NumV b)) :
  Calls Tryz.prog 130 #[.slice A n c,.slice A' n' c'] w fun e w'=>e=.returned (.bool (decide (valB a<valB b)))∧w'=w:=by
 have HA:=Lh ha
 have HB:=Lh hb
 have HN:=Lh hn
 have HN':=Lh hn'
 have HR:=Lh hR
 have HR':=Lh hR'
 obtain⟨m,hmx⟩:∃m,m=max n n':=⟨_,rfl⟩
 have e1:(if n<n' then(n':Int)else(n:Int))=(m:Int):=by split<;>omega
 have M1:=Lh (show m≤1000 by omega)
 have ML:=Lh (show n≤m∧n'≤m by omega)
 obtain⟨r,hr⟩:∃r,r=decide (valB a<valB b):=⟨_,rfl⟩
 rw[←hr]
 have RE:=Lh hr
 have mb:(m:Int)≤1000:=by omega
 clear ha hb hn hn' hm hm' hR hR' hmx hr
 go_enter Tryz.func130,Tryz.ntmps130
 go_wp2_with fail
 clear e1
 go_loopw [5] (fun i wr=>∃k:Nat,k≤m∧i=.int .i64 ((k:Int)-1)∧valB (a.drop k)=valB (b.drop k)∧wr=w) (fun i _=>(intOf i+1).toNat)
 case atStart=>exact⟨m,kQh _,rfl,by rw [kQt (by rw [HN.out];exact ML.out.1),kQt (by rw [HN'.out];exact ML.out.2)],rfl⟩
 case round=>
  obtain⟨k,hk,rfl,hv,hw⟩:=hrel
  rw[hw]
  clear hw wr
  have V:=Lh hv
  clear hv
  rcases k with _|k
  ·have hD:decide ((0:Int)≤(((0:Nat):Int)-1))=false:=by decide
   have R0:=Lh (show r=false by
    rw[RE.out]
    have:=V.out
    simp only [List.drop_zero]at this
    simp [this])
   go_wp2_with fail
   go_ret
   exact⟨by rw [R0.out];rfl,rfl⟩
  ·have hc:(((k+1:Nat):Int)-1)=(k:Int):=by omega
   rw[hc]
   have hD:decide ((0:Int)≤(k:Int))=true:=by simp
   have kb:(k:Int)≤1000:=by have:=M1.out;omega
   obtain⟨x,hx⟩:∃x,x=a.getD k 0:=⟨_,rfl⟩
   obtain⟨y,hy⟩:∃y,y=b.getD k 0:=⟨_,rfl⟩
   have DA:=Lh (qZT a A n c HN.out k w HR.out)
   have DB:=Lh (qZT b A' n' c' HN'.out k w HR'.out)
   rw[←hx]at DA
   rw[←hy]at DB
   have XE:=Lh hx
   have YE:=Lh hy
   have xb:(x:Int)≤255:=by have:=qZL HA.out k;omega
   have yb:(y:Int)≤255:=by have:=qZL HB.out k;omega
   clear hc hx hy
   go_wp2_with fail
   refine DA.out.mono ?_
   rintro e w1 ⟨rfl,hw⟩
   rw[hw]
   clear hw w1
   go_wp2_with fail
   refine DB.out.mono ?_
   rintro e w1 ⟨rfl,hw⟩
   rw[hw]
   clear hw w1
   by_cases hxy:x=y
   ·have hE:(((x:Int)) != (y:Int))=false:=by simp;omega
    have hE2:decide (x=y)=true:=by simp [hxy]
    have V2:=Lh (show valB (a.drop k)=valB (b.drop k) by rw [qXm a,qXm b,V.out,←XE.out,←YE.out,hxy])
    clear hxy
    go_wp2_with fail
    go_roundw
    case rel=>exact⟨k,by omega,by go_num,V2.out,trivial⟩
    case measure=>simp [intOf]
   ·have hE:(((x:Int)) != (y:Int))=true:=by simp;omega
    have hE2:decide (x=y)=false:=by simp [hxy]
    have R2:=Lh (show r=decide (x<y) by
     rw[RE.out,XE.out,YE.out]
     have:=below_at a b HA.out HB.out k V.out (by rw [←XE.out,←YE.out];exact hxy)
     rw[decide_eq_decide]
     exact this)
    clear hxy
    go_wp2_with fail
    refine DA.out.mono ?_
    rintro e w1 ⟨rfl,hw⟩
    rw[hw]
    clear hw w1
    go_wp2_with fail
    refine DB.out.mono ?_
    rintro e w1 ⟨rfl,hw⟩
    rw[hw]
    clear hw w1
    go_wp2_with fail
    go_ret
    exact⟨by rw [R2.out];simp,rfl⟩
theorem less_any (a b:List Nat) (ha:∀d∈a,d≤255) (hb:∀d∈b,d≤255) (hle:valB b≤valB a) (A:Option Addr) (n c:Nat) (hn:a.length=n) (A':Option Addr) (n' c':Nat) (hn':b.length=n') (hm:n≤1000) (hm':n'≤1000) (w:World) (hR:RdV w A (NumV a)) (hR':RdV w A' (NumV b)) :
  Calls Tryz.prog 132 #[.slice A n c,.slice A' n' c'] w fun e w'=>∃v o,e=.returned v∧OwnV w' w.heap.size 3 v (NumV o)∧o.length=n∧(∀d∈o,d≤255)∧valB o=valB a-valB b∧Below w.heap.size w w':=by
 have HA:=Lh ha
 have HB:=Lh hb
 have HN:=Lh hn
 have HN':=Lh hn'
 have HR:=Lh hR
 have HR':=Lh hR'
 have HLE:=Lh hle
 have NT:=Lh numT
 have nb:(n:Int)≤1000:=by omega
 have HM:=Lh hm
 clear ha hb hn hn' hm hm' hR hR' hle
 go_enter Tryz.func132,Tryz.ntmps132
 go_wp2_with fail
 go_loopw [5,6,7] (fun u q i wr=>∃(o:List Nat) (k s:Nat),o.length=s∧s≤n∧OwnV wr w.heap.size 3 u (NumV o)∧q=.int .i64 (k:Int)∧i=.int .i64 (s:Int)∧LesS a b o k∧Below w.heap.size w wr) (fun _ _ i _=>n-(intOf i).toNat)
 case atStart=>exact⟨[],0,0,rfl,by omega,OwnV.nil _ _ _,rfl,rfl,LesS.start a b,Below.refl _ _⟩
 case round=>
  obtain⟨o,k,s,hos,hsn,ho,rfl,rfl,hs,hb⟩:=hrel
  have OS:=Lh hos
  have O:=Lh ho
  have L:=Lh hs
  have S:=Lh hb
  have kb:(k:Int)≤1:=by have:=hs.cb;omega
  clear hos ho hs hb
  by_cases hlt:s<n
  ·have hD:decide ((s:Int)<(n:Int))=true:=by simp;omega
   have hD2:decide (s<n)=true:=by simp;omega
   have sb:(s:Int)<(n:Int):=by omega
   obtain⟨x,hx⟩:∃x,x=a.getD s 0:=⟨_,rfl⟩
   obtain⟨y,hy⟩:∃y,y=b.getD s 0:=⟨_,rfl⟩
   have DA:=Lh (qZT a A n c HN.out s wr (HR.out.keep S.out))
   have DB:=Lh (qZT b A' n' c' HN'.out s wr (HR'.out.keep S.out))
   rw[←hx]at DA
   rw[←hy]at DB
   have XE:=Lh hx
   have YE:=Lh hy
   have xb:(x:Int)≤255:=by have:=qZL HA.out s;omega
   have yb:(y:Int)≤255:=by have:=qZL HB.out s;omega
   clear hx hy
   go_wp2_with fail
   refine DA.out.mono ?_
   rintro e w1 ⟨rfl,hw⟩
   rw[hw]
   clear hw w1
   go_wp2_with fail
   refine DB.out.mono ?_
   rintro e w1 ⟨rfl,hw⟩
   rw[hw]
   clear hw w1
   obtain⟨d,c2,hd,hd2,hc2,hk⟩:∃d c2:Nat,(d:Int)=(x:Int)-(y:Int)-(k:Int)+256*(c2:Int)∧d≤255∧c2≤1∧(((x:Int)-(y:Int)-(k:Int)<0∧c2=1)∨(¬((x:Int)-(y:Int)-(k:Int)<0)∧c2=0)):=by
    by_cases h:(x:Int)-(y:Int)-(k:Int)<0
    ·exact⟨(x+256-y-k),1,by omega,by omega,by omega,.inl ⟨h,rfl⟩⟩
    ·exact⟨(x-y-k),0,by omega,by omega,by omega,.inr ⟨h,rfl⟩⟩
   have L2:=Lh (L.out.step HA.out HB.out d c2 (by rw [OS.out,←XE.out,←YE.out];exact hd) hd2 hc2)
   have DL:=Lh hd2
   have hcase:=hk
   clear hk hd2 hc2
   rcases hcase with ⟨h1,rfl⟩|⟨h1,rfl⟩
   ·have hN:decide ((x:Int)-(y:Int)-(k:Int)<0)=true:=by simp;omega
    have e2:(x:Int)-(y:Int)-(k:Int)+256=(d:Int):=by omega
    have HD:=Lh hd
    clear hd
    go_upto_region 11 with fail
    clear hN h1 e2
    go_wp2_with (
     refine qZp rfl NT.out (.tmp 28) (.tmp 30) rfl w.heap.size u5 (NumV o) [.int .i64 (d:Int)] (some ⟨wr.heap.size,0,none⟩) 1 1 rfl rfl rfl (O.out.alloc _) (RdV.one (qQg (fr:=(0,0)) (qQk wr _ _ rfl) 0 rfl)) (by intro u hu;simp at hu;subst hu;rfl) ?c1 ?c2 ?c3 ?_
     )
    case c1=>have:=S.out.size;rw [qQD];omega
    case c2=>have:=OS.out;have:=HM.out;rw [qQC];omega
    case c3=>have:=OS.out;have:=HM.out;rw [qQC];omega
    intro v2 w2 ho hg _
    have B2:Below w.heap.size w (wr.alloc (.cells #[.int .i64 (d:Int)] 3)):=S.out.alloc S.out.size _
    have S2:=Lh (B2.trans (qQi hg (by rw [qQD];have:=S.out.size;omega) (fun q e=>(O.out.lt q e).1)))
    have O2:=Lh (show OwnV w2 w.heap.size 3 v2 (NumV (o++[d])) by rw [qZk];exact ho)
    clear ho hg B2
    go_wp2_with fail
    go_roundw
    case rel=>exact⟨o++[d],1,s+1,by rw [kQj,OS.out];rfl,by omega,O2.out,rfl,by go_num,L2.out,S2.out⟩
    case measure=>simp [intOf];omega
   ·have hN:decide ((x:Int)-(y:Int)-(k:Int)<0)=false:=by simp;omega
    have e2:(x:Int)-(y:Int)-(k:Int)=(d:Int):=by omega
    have HD:=Lh hd
    clear hd
    go_upto_region 11 with fail
    clear hN h1 e2
    go_wp2_with (
     refine qZp rfl NT.out (.tmp 28) (.tmp 30) rfl w.heap.size u5 (NumV o) [.int .i64 (d:Int)] (some ⟨wr.heap.size,0,none⟩) 1 1 rfl rfl rfl (O.out.alloc _) (RdV.one (qQg (fr:=(0,0)) (qQk wr _ _ rfl) 0 rfl)) (by intro u hu;simp at hu;subst hu;rfl) ?c1 ?c2 ?c3 ?_
     )
    case c1=>have:=S.out.size;rw [qQD];omega
    case c2=>have:=OS.out;have:=HM.out;rw [qQC];omega
    case c3=>have:=OS.out;have:=HM.out;rw [qQC];omega
    intro v2 w2 ho hg _
    have B2:Below w.heap.size w (wr.alloc (.cells #[.int .i64 (d:Int)] 3)):=S.out.alloc S.out.size _
    have S2:=Lh (B2.trans (qQi hg (by rw [qQD];have:=S.out.size;omega) (fun q e=>(O.out.lt q e).1)))
    have O2:=Lh (show OwnV w2 w.heap.size 3 v2 (NumV (o++[d])) by rw [qZk];exact ho)
    clear ho hg B2
    go_wp2_with fail
    go_roundw
    case rel=>exact⟨o++[d],0,s+1,by rw [kQj,OS.out];rfl,by omega,O2.out,rfl,by go_num,L2.out,S2.out⟩
    case measure=>simp [intOf];omega
  ·have hD:decide ((s:Int)<(n:Int))=false:=by simp;omega
   have hD2:decide (s<n)=false:=by simp;omega
   have SN:=Lh (show s=n by omega)
   clear hlt hsn
   go_wp2_with fail
   go_ret
   exact⟨_,o,rfl,O.out,by rw [OS.out,SN.out],L.out.dig,L.out.done (by rw [OS.out,SN.out,HN.out]) HLE.out HA.out,S.out⟩
end Go.Proofs.YtlocplkjokoknaaGreat
namespace Go.Proofs.YtlocplkjokoknaaGreat
open Go.RowKit
def M130:Nat:=1361129467683753853853498429727072845824
theorem M130_eq:M130=256 ^ 16*4:=by decide +kernel
theorem M130_PN:M130=PN+5:=by decide +kernel
def qJj (x:Nat):Nat:=x % M130+5*(x/M130)
theorem foldM_mod (x:Nat):qJj x % PN=x % PN:=by
 have h:x=x % M130+M130*(x/M130):=(Nat.mod_add_div x M130).symm
 conv=>rhs;rw [h,M130_PN,Nat.add_mul,←M130_PN]
 unfold qJj
 rw[show x % M130+(PN*(x/M130)+5*(x/M130))=(x % M130+5*(x/M130))+PN*(x/M130) by omega,Nat.add_mul_mod_self_left]
theorem foldM_le (x:Nat):qJj x≤x:=by
 unfold qJj
 have h:x % M130+M130*(x/M130)=x:=Nat.mod_add_div x M130
 have:5*(x/M130)≤M130*(x/M130):=Nat.mul_le_mul (by decide) (kQh _)
 omega
theorem qK9 (x:Nat) (h:x<M130):qJj x=x:=by
 unfold qJj
 rw[Nat.mod_eq_of_lt h,Nat.div_eq_of_lt h]
 rfl
theorem foldM_lt (x:Nat):qJj x<M130+5*(x/M130):=by
 unfold qJj
 have:=Nat.mod_lt x (show 0<M130 by decide)
 omega
def qXY:Nat→Nat→Nat
 | 0,x=>x
 | k+1,x=>qJj (qXY k x)
theorem foldK_mod (k x:Nat):qXY k x % PN=x % PN:=by
 induction k with
 | zero=>rfl
 | succ k ih=>rw [qXY,foldM_mod,ih]
theorem foldK_le (k x:Nat):qXY k x≤x:=by
 induction k with
 | zero=>exact kQh _
 | succ k ih=>rw [qXY];exact kQk (foldM_le _) ih
theorem foldK_lt (x:Nat) (h:x<256 ^ 37):qXY 8 x<M130:=by
 have h1:qXY 1 x<M130+5*2 ^ 166:=by
  have:=foldM_lt x
  have h2:x/M130<2 ^ 166:=by
   apply Nat.div_lt_of_lt_mul
   exact kQb h (by decide +kernel)
  show qJj x<_
  omega
 have h2:qXY 2 x<M130+5*2 ^ 40:=by
  have:=foldM_lt (qXY 1 x)
  have h3:qXY 1 x/M130<2 ^ 40:=by
   apply Nat.div_lt_of_lt_mul
   exact kQb h1 (by decide +kernel)
  show qJj (qXY 1 x)<_
  omega
 have h3:qXY 3 x<M130:=by
  rcases Nat.lt_or_ge (qXY 2 x) M130 with h4|h4
  ·show qJj (qXY 2 x)<_
   rw[qK9 _ h4]
   exact h4
  ·show qJj (qXY 2 x)<_
   unfold qJj
   have h5:qXY 2 x/M130=1:=by
    have hM:M130+5*2 ^ 40<2*M130:=by decide +kernel
    generalize qXY 2 x=z at *
    generalize M130=m at *
    generalize 5*2 ^ 40=r at *
    apply Nat.div_eq_of_lt_le<;>omega
   have h6:qXY 2 x % M130=qXY 2 x-M130:=by
    have:=Nat.mod_add_div (qXY 2 x) M130
    rw[h5]at this
    omega
   rw[h5,h6]
   have:5*2 ^ 40+5<M130:=by decide +kernel
   omega
 have e:∀k,qXY (3+k) x=qXY 3 x:=by
  intro k
  induction k with
  | zero=>rfl
  | succ k ih=>
   show qJj (qXY (3+k) x)=_
   rw[ih,qK9 _ h3]
 rw[show 8=3+5 from rfl,e]
 exact h3
def qVX (l:List Nat):List Nat:=if l.length<17 then l else(l.take 16)++[l.getD 16 0 % 4]
def qJF (l:List Nat) (i:Nat):Nat:=l.getD (16+i) 0/4+l.getD (16+i+1) 0 % 4*64
theorem lowL_val (l:List Nat) (h:∀d∈l,d≤255):valB (qVX l)=valB l % M130:=by
 unfold qVX
 split
 ·rename_i hl
  rw[Nat.mod_eq_of_lt]
  have h1:=qKE l h
  have h2:256 ^ l.length≤256 ^ 16:=Nat.pow_le_pow_right (by omega) (by omega)
  have h3:256 ^ 16<M130:=by decide +kernel
  omega
 ·rename_i hl
  have h1:=qXL l 16
  have h2:tabN (fun j=>l.getD j 0) 16=l.take 16:=by
   apply List.ext_getElem
   ·rw [qQQ,kQp];omega
   ·intro i hi1 hi2
    rw[qQQ]at hi1
    simp [tabN,kQa,show i<l.length by omega]
  rw[h2]at h1
  rw[qZc,kQp,Nat.min_eq_left (by omega)]
  rw[h1,qXm]
  have h3:valB (l.take 16)<256 ^ 16:=by
   have:=qKE (l.take 16) (fun d hd=>h d (List.mem_of_mem_take hd))
   rwa [kQp,Nat.min_eq_left (by omega)]at this
  generalize valB (l.take 16)=x at *
  generalize l.getD 16 0=p at *
  generalize valB (l.drop (16+1))=z at *
  rw[M130_eq,Nat.mod_mul,Nat.add_mul_mod_self_left,Nat.mod_eq_of_lt h3,Nat.add_mul_div_left _ _ (by decide),Nat.div_eq_of_lt h3]
  simp only [valB,Nat.zero_add,Nat.mul_zero,Nat.add_zero]
  congr 2
  omega
theorem high_val (l:List Nat) (m:Nat) (hm:l.length≤16+m) (h:∀d∈l,d≤255):valB (tabN (qJF l) m)=valB l/M130:=by
 have key:∀m,4*valB (tabN (qJF l) m)+256 ^ m*(valB (l.drop (16+m)))+l.getD 16 0 % 4=valB (l.drop 16)+256 ^ m*(l.getD (16+m) 0 % 4):=by
  intro m
  induction m with
  | zero=>simp [tabN,valB]
  | succ m ih=>
   rw[qZ9,qZc,qQQ]
   have e:=qXm l (16+m)
   rw[e]at ih
   have e1:qJF l m=l.getD (16+m) 0/4+l.getD (16+m+1) 0 % 4*64:=rfl
   simp only [valB,e1,Nat.pow_succ,Nat.mul_zero,Nat.add_zero]
   rw[show 16+(m+1)=16+m+1 by omega]
   generalize valB (tabN (qJF l) m)=x at *
   generalize valB (l.drop (16+m+1))=y at *
   generalize l.getD (16+m) 0=p at *
   generalize l.getD (16+m+1) 0=q at *
   generalize valB (l.drop 16)=z at *
   generalize 256 ^ m=t at *
   have e2:p=4*(p/4)+p % 4:=by omega
   have e3:t*(p+256*y)=t*(4*(p/4))+t*(p % 4)+t*(256*y):=by
    conv=>lhs;rw [e2]
    rw[Nat.mul_add,Nat.mul_add]
   grind
 have h1:=key m
 have h2:l.drop (16+m)=[]:=kQt (by omega)
 have h3:l.getD (16+m) 0=0:=by rw [kQa,List.getElem?_eq_none (by omega)];rfl
 rw[h2,h3]at h1
 simp only [valB,Nat.mul_zero,Nat.add_zero]at h1
 have h4:=qXL l 16
 have h5:=tab_lt l h 16
 rw[h4,M130_eq,←Nat.div_div_eq_div_mul,Nat.add_mul_div_left _ _ (by decide),Nat.div_eq_of_lt h5,Nat.zero_add]
 omega
theorem lowL_dig (l:List Nat) (h:∀d∈l,d≤255):∀d∈qVX l,d≤255:=by
 intro d hd
 unfold qVX at hd
 split at hd
 ·exact h d hd
 ·rcases List.mem_append.1 hd with h1|h1
  ·exact h d (List.mem_of_mem_take h1)
  ·simp at h1;omega
theorem highF_le (l:List Nat) (h:∀d∈l,d≤255) (i:Nat):qJF l i≤255:=by
 have:=qZL h (16+i)
 unfold qJF
 omega
theorem lowL_length (l:List Nat):(qVX l).length=min l.length 17:=by
 unfold qVX
 split
 ·omega
 ·simp;omega
theorem Digs.few {l:List Nat} {x m:Nat} (h:Digs l x m) (hx:x<256 ^ 37):l.length≤max m 37:=by
 rcases h.top with h1|h1
 ·omega
 ·have:256 ^ (l.length-1)<256 ^ 37:=Nat.lt_of_le_of_lt h1 hx
  have:=(Nat.pow_lt_pow_iff_right (show 1<256 by omega)).1 this
  omega
theorem Digs.d255 {l:List Nat} {x m:Nat} (h:Digs l x m):∀d∈l,d≤255:=fun d hd=>Nat.le_of_lt_succ (h.dig d hd)
end Go.Proofs.YtlocplkjokoknaaGreat
namespace Go.Proofs.YtlocplkjokoknaaGreat
open Go.RowKit
attribute [local go_sem ↓] Go.wp_at_zero Go.wp_at_succ
theorem OwnV.block {w:World} {base:Nat} {e:TypeId} {v:Value} {l:List Value} (h:OwnV w base e v l) (hl:l≠[]) :
  ∃g cap cur,v=.slice (some ⟨g,0,none⟩) l.length cap∧base≤g∧w.heap[g]?=some (.cells cur e (0,0))∧l.length≤cap∧cur.toList.take l.length=l∧cap≤maxLen∧cur.size=cap:=by
 rcases h.2 with ⟨hv,hn⟩|⟨g,cap,cur,hv,hb,hh,hnc,hcm,hcs,ht⟩
 ·exact absurd (List.eq_nil_of_length_eq_zero hn) hl
 ·exact⟨g,cap,cur,hv,hb,hh,hnc,by simpa using ht,hcm,by simpa using hcs⟩
theorem OwnV.put {w:World} {base:Nat} {e:TypeId} {g cap:Nat} {l:List Value} {cur:Array Value} (hb:base≤g) (hh:w.heap[g]?=some (.cells cur e (0,0))) (hnc:l.length≤cap) (ht:cur.toList.take l.length=l) (hcm:cap≤maxLen) (hcs:cur.size=cap) (i:Nat) (x:Value) :
  OwnV (w.setCell ⟨g,i,none⟩ x) base e (.slice (some ⟨g,0,none⟩) l.length cap) (l.set i x):=by
 refine⟨by simp,.inr ⟨g,cap,cur.setIfInBounds i x,by simp,hb,heap_setCell_same _ _ _ _ _ _ hh,by simpa using hnc,hcm,by simpa using hcs,?_⟩⟩
 rw[Nat.mul_one,List.length_set,Array.toList_setIfInBounds,List.take_set,ht]
theorem lowL_17 (l:List Nat) (h:17≤l.length):qVX l=(l.take 17).set 16 (l.getD 16 0 % 4):=by
 unfold qVX
 have e:l.take 17=l.take 16++[l.getD 16 0]:=by
  rw[show 17=16+1 from rfl,List.take_add_one,kQi (by omega)]
  simp [kQa,show 16<l.length by omega]
 have e2:(l.take 16).length=16:=by rw [kQp];omega
 rw[if_neg (by omega),e,List.set_append_right _ _ (by omega),e2]
 rfl
theorem lowL_few (l:List Nat) (h:l.length<17):qVX l=l.take 17:=by
 unfold qVX
 rw[if_pos h,kQn (by omega)]
theorem qWT (w:World) (o:Obj):Below w.heap.size w (w.alloc o):=(Below.refl _ _).alloc (kQh _) _
theorem mod_any (l0:List Nat) (hd0:∀d∈l0,d≤255) (hx0:valB l0<256 ^ 37) (A0:Option Addr) (n0 c0:Nat) (hn0:l0.length=n0) (hm0:n0≤60) (w:World) (hR0:RdV w A0 (NumV l0)) :
  Calls Tryz.prog 114 #[.slice A0 n0 c0] w fun e w'=>∃A c n o,e=.returned (.slice A n c)∧o.length=n∧n≤37∧RdV w' A (NumV o)∧(∀d∈o,d≤255)∧valB o=valB l0 % PN∧Below w.heap.size w w':=by
 have NT:=Lh numT
 obtain⟨x0,hxx⟩:∃x,x=valB l0:=⟨_,rfl⟩
 have XE:=Lh hxx.symm
 have XB:=Lh (show x0<256 ^ 37 by rw [hxx];exact hx0)
 have HD0:=Lh hd0
 have HN0:=Lh hn0
 have HM0:=Lh hm0
 have HR0:=Lh hR0
 rw[←hxx]
 clear hxx hx0 hd0 hn0 hm0 hR0
 go_enter Tryz.func114,Tryz.ntmps114
 go_wp2_with fail
 go_loopw [0,3] (fun u i wr=>∃(k:Nat) (l:List Nat) (A:Option Addr) (n c:Nat),k≤8∧i=.int .i64 (k:Int)∧u=.slice A n c∧l.length=n∧(n≤60∧(1≤k→n≤45)∧(2≤k→n≤37))∧RdV wr A (NumV l)∧(∀d∈l,d≤255)∧valB l=qXY k x0∧Below w.heap.size w wr) (fun _ i _=>8-(intOf i).toNat)
 case atStart=>exact⟨0,l0,A0,n0,c0,by omega,rfl,rfl,HN0.out,⟨HM0.out,fun h=>by omega,fun h=>by omega⟩,HR0.out,HD0.out,XE.out,Below.refl _ _⟩
 case round=>
  obtain⟨k,l,A,n,c,hk,rfl,rfl,hn,hm,hr,hd,hv,hb⟩:=hrel
  obtain⟨wo,hwo⟩:∃x:World,x=wr:=⟨_,rfl⟩
  rw[←hwo]at hr hb ⊢
  clear hwo wr
  have K:=Lh hk
  have N:=Lh hn
  have MK:=Lh hm
  have M:=Lh hm.1
  have R:=Lh hr
  have D:=Lh hd
  have V:=Lh hv
  have S:=Lh hb
  have nb:(n:Int)≤60:=by omega
  clear hk hn hm hr hd hv hb
  by_cases hlt:k<8
  ·have hD:decide ((k:Int)<8)=true:=by simp;omega
   have K8:=Lh hlt
   go_upto_block 2 with fail
   clear hD
   go_cut [4] (fun u wx=>OwnV wx wo.heap.size 3 u (NumV (l.take 17))∧Below wo.heap.size wo wx)
   case first=>
    go_wp2_with fail
    go_loopw [4,6] (fun u i wq=>∃j:Nat,j≤n∧j≤17∧i=.int .i64 (j:Int)∧OwnV wq wo.heap.size 3 u (NumV (l.take j))∧Below wo.heap.size wo wq) (fun _ i _=>17-(intOf i).toNat)
    case atStart=>exact⟨0,by omega,by omega,rfl,OwnV.nil _ _ _,Below.refl _ _⟩
    case round=>
     obtain⟨j,hj,hj17,rfl,ho,hb⟩:=hrel
     have J:=Lh (And.intro hj hj17)
     have O:=Lh ho
     have S2:=Lh hb
     clear hj hj17 ho hb
     by_cases h17:j<17
     ·have hE:decide ((j:Int)<17)=true:=by simp;omega
      by_cases hjn:j<n
      ·have hF:decide ((j:Int)<(n:Int))=true:=by simp;omega
       have hF2:decide (j<n)=true:=by simp;omega
       have jb:(j:Int)<(n:Int):=by omega
       have J17:=Lh h17
       obtain⟨d,hd⟩:∃d,d=l.getD j 0:=⟨_,rfl⟩
       obtain⟨b,o,rfl,hc⟩:=(R.out.keep S2.out) j _ (qJR l j (by rw [N.out];exact hjn))
       rw[←hd]at hc
       have TE:=Lh (show NumV (l.take (j+1))=NumV (l.take j)++[.int .i64 (d:Int)] by
        rw[List.take_add_one,kQi (by rw [N.out];exact hjn),hd,qZk]
        simp [NumV,kQa,N.out,hjn])
       clear hd h17
       go_wp2_with (refine qZp rfl NT.out (.tmp 23) (.tmp 28) rfl wo.heap.size _ (NumV (l.take j)) [.int .i64 (d:Int)] (some ⟨wr.heap.size,0,none⟩) 1 1 rfl rfl rfl (O.out.alloc _) (RdV.one (qQg (fr:=(0,0)) (qQk wr _ _ rfl) 0 rfl)) (by intro u hu;simp at hu;subst hu;rfl) ?c1 ?c2 ?c3 ?_)
       case c1=>have:=S2.out.size;rw [qQD];omega
       case c2=>rw [qQC,kQp];have:=J17.out;omega
       case c3=>rw [qQC,kQp];have:=J17.out;omega
       intro v2 w2 ho hg _
       have B2:Below wo.heap.size wo (wr.alloc (.cells #[.int .i64 (d:Int)] 3)):=S2.out.alloc S2.out.size _
       have S3:=Lh (B2.trans (qQi hg (by rw [qQD];have:=S2.out.size;omega) (fun q e=>(O.out.lt q e).1)))
       have O2:=Lh (show OwnV w2 wo.heap.size 3 v2 (NumV (l.take (j+1))) by rw [TE.out];exact ho)
       clear ho hg B2 hE hF hF2 hc
       go_wp2_with fail
       go_roundw
       case rel=>exact⟨j+1,by omega,by have:=J17.out;omega,by go_num,O2.out,S3.out⟩
       case measure=>have:=J17.out;simp [intOf];omega
      ·have hF:decide ((j:Int)<(n:Int))=false:=by simp;omega
       have hF2:decide (j<n)=false:=by simp;omega
       have TE:=Lh (show l.take j=l.take 17 by rw [kQn (by rw [N.out];omega),kQn (by rw [N.out];omega)])
       go_wp2_with fail
       go_meet
       exact⟨by rw [←TE.out];exact O.out,S2.out⟩
     ·have hE:decide ((j:Int)<17)=false:=by simp;omega
      have TE:=Lh (show j=17 by have:=J.out;omega)
      go_wp2_with fail
      go_meet
      exact⟨by have:=O.out;rwa [TE.out]at this,S2.out⟩
   case rest=>
   obtain⟨ho,hb⟩:=hcut
   have O:=Lh ho
   have S2:=Lh hb
   obtain⟨A4,c4,hu,_⟩:=ho.read
   obtain⟨q,hq⟩:∃q,q=min n 17:=⟨_,rfl⟩
   have QL:=Lh (show(NumV (l.take 17)).length=q by rw [qQC,kQp,N.out,hq];omega)
   rw[QL.out]at hu
   rw[hu]at O ⊢
   have QE:=Lh hq
   have qb:(q:Int)≤17:=by omega
   clear ho hb hu hq
   go_upto_if 32 with fail
   go_cut [4] (fun u wx=>OwnV wx wo.heap.size 3 u (NumV (qVX l))∧Below wo.heap.size wo wx)
   case first=>
    by_cases h17:q=17
    ·obtain⟨g,cap,cur,hv,hgb,hh,hnc,ht,hcm,hcs⟩:=O.out.block (by intro h;have:=QL.out;rw [h]at this;simp at this;omega)
     rw[QL.out]at hv
     cases hv
     subst h17
     obtain⟨d,hd⟩:∃d,d=l.getD 16 0:=⟨_,rfl⟩
     have DE:=Lh hd
     have N17:=Lh (show 17≤l.length by rw [N.out];have:=QE.out;omega)
     have hc:wc.cell? ⟨g,16,none⟩=some (.int .i64 (d:Int)):=by
      refine qQg hh 16 ?_
      have h2:=qJR (l.take 17) 16 (by rw [kQp];have:=N17.out;omega)
      rw[←ht,QL.out,List.getElem?_take,if_pos (by omega)]at h2
      rw[←Array.getElem?_toList,h2,hd]
      simp [kQa,List.getElem?_take]
     have hf:=qQz hh 16
     have db:(d:Int)≤255:=by have:=qZL D.out 16;omega
     obtain⟨d4,hd4⟩:∃x,x=d % 4:=⟨_,rfl⟩
     have OP:=Lh (OwnV.put hgb hh hnc ht hcm hcs 16 (.int .i64 (d4:Int)))
     have GB:=Lh hgb
     have em:((d:Int) % 4)=(d4:Int):=by omega
     have E4:=Lh hd4
     clear hd4
     rw[QL.out]at OP
     clear hd hh hnc ht hcm hcs hgb
     go_wp2_with fail
     go_meet
     refine⟨?_,S2.out.trans (qQi (qQF (World.grownBy.refl _ (some g)) _ _) S2.out.size (by rintro x ⟨⟩;exact GB.out))⟩
     have:=OP.out
     rw[lowL_17 l N17.out,←DE.out,←E4.out]
     have e3:NumV ((l.take 17).set 16 d4)=(NumV (l.take 17)).set 16 (.int .i64 (d4:Int)):=by simp [NumV,List.map_set]
     rw[e3]
     exact this
    ·have hE:decide ((q:Int)=17)=false:=by simp;omega
     have hE2:((q:Int)==17)=false:=by simp;omega
     have LE:=Lh (show qVX l=l.take 17 from lowL_few l (by rw [N.out];have:=QE.out;omega))
     clear h17
     go_wp2_with fail
     go_meet
     exact⟨by rw [LE.out];exact O.out,S2.out⟩
   case rest=>
   obtain⟨ho,hb⟩:=hcut
   obtain⟨A4,c4,rfl,hr4,hl4,_,hb4⟩:=ho.read
   have QL:=Lh (show(NumV (qVX l)).length=q by rw [qQC,lowL_length,N.out,QE.out])
   rw[QL.out]at hl4 ⊢
   have RL:=Lh hr4
   have LB:=Lh hb4
   have SC:=Lh hb
   obtain⟨wm,hwm⟩:∃x:World,x=wc:=⟨_,rfl⟩
   rw[←hwm]at RL LB SC ⊢
   clear hwm hb ho hr4 hl4 hb4 O S2 wc
   obtain⟨m,hm⟩:∃m,m=n-16:=⟨_,rfl⟩
   have ME:=Lh hm
   clear hm
   go_upto_region 11 with fail
   go_wp2_with fail
   go_loopw [5,7] (fun u i wq=>∃j:Nat,j≤m∧i=.int .i64 ((16+j:Nat):Int)∧OwnV wq wm.heap.size 3 u (NumV (tabN (qJF l) j))∧Below wm.heap.size wm wq) (fun _ i _=>100-(intOf i).toNat)
   case atStart=>exact⟨0,by omega,rfl,OwnV.nil _ _ _,Below.refl _ _⟩
   case round=>
    obtain⟨j,hj,rfl,ho,hb⟩:=hrel
    have J:=Lh hj
    have O:=Lh ho
    have S2:=Lh hb
    obtain⟨i,hi⟩:∃i,i=16+j:=⟨_,rfl⟩
    rw[←hi]
    have IE:=Lh hi
    have ib:(i:Int)≤100:=by have:=ME.out;omega
    clear hj ho hb hi
    by_cases hin:i<n
    ·have hF:decide ((i:Int)<(n:Int))=true:=by simp;omega
     have hF2:decide (i<n)=true:=by simp;omega
     obtain⟨p,hp⟩:∃p,p=l.getD i 0:=⟨_,rfl⟩
     obtain⟨r,hr⟩:∃r,r=l.getD (i+1) 0:=⟨_,rfl⟩
     obtain⟨h,hh⟩:∃h,h=p/4+r % 4*64:=⟨_,rfl⟩
     have HE:=Lh (show qJF l j=h by rw [hh,hp,hr,IE.out];rfl)
     have DA:=Lh (qZT l A n c N.out i wr ((R.out.keep SC.out).keep S2.out))
     have DB:=Lh (qZT l A n c N.out (i+1) wr ((R.out.keep SC.out).keep S2.out))
     rw[←hp]at DA
     rw[←hr]at DB
     have pb:(p:Int)≤255:=by have:=qZL D.out i;omega
     have rb:(r:Int)≤255:=by have:=qZL D.out (i+1);omega
     have eh:(p:Int)/4+(r:Int) % 4*64=(h:Int):=by omega
     clear hp hr hh
     have HJ:=Lh (show j<m by have:=ME.out;have:=IE.out;omega)
     go_wp2_with fail
     refine DA.out.mono ?_
     rintro e w1 ⟨rfl,hw⟩
     rw[hw]
     clear hw w1
     go_wp2_with fail
     refine DB.out.mono ?_
     rintro e w1 ⟨rfl,hw⟩
     rw[hw]
     clear hw w1
     go_wp2_with (refine qZp rfl NT.out (.tmp 45) (.tmp 57) rfl wm.heap.size _ (NumV (tabN (qJF l) j)) [.int .i64 (h:Int)] (some ⟨wr.heap.size,0,none⟩) 1 1 rfl rfl rfl (O.out.alloc _) (RdV.one (qQg (fr:=(0,0)) (qQk wr _ _ rfl) 0 rfl)) (by intro u hu;simp at hu;subst hu;rfl) ?c1 ?c2 ?c3 ?_)
     case c1=>have:=S2.out.size;rw [qQD];omega
     case c2=>rw [qQC,qQQ];have:=HJ.out;have:=ME.out;omega
     case c3=>rw [qQC,qQQ];have:=HJ.out;have:=ME.out;omega
     intro v2 w2 ho hg _
     have B2:Below wm.heap.size wm (wr.alloc (.cells #[.int .i64 (h:Int)] 3)):=S2.out.alloc S2.out.size _
     have S3:=Lh (B2.trans (qQi hg (by rw [qQD];have:=S2.out.size;omega) (fun q e=>(O.out.lt q e).1)))
     have O2:=Lh (show OwnV w2 wm.heap.size 3 v2 (NumV (tabN (qJF l) (j+1))) by rw [qZ9,HE.out,qZk];exact ho)
     clear ho hg B2 hF hF2 eh
     go_wp2_with fail
     go_roundw
     case rel=>exact⟨j+1,by have:=HJ.out;omega,by have:=IE.out;go_num,O2.out,S3.out⟩
     case measure=>simp [intOf];omega
    ·have hF:decide ((i:Int)<(n:Int))=false:=by simp;omega
     have hF2:decide (i<n)=false:=by simp;omega
     have JM:=Lh (show j=m by have:=J.out;have:=ME.out;have:=IE.out;omega)
     obtain⟨A5,c5,hu5,hr5,_,_,_⟩:=O.out.read
     have HLN:=Lh (show(NumV (tabN (qJF l) j)).length=m by rw [qQC,qQQ,JM.out])
     rw[HLN.out]at hu5
     rw[hu5]
     have R5:=Lh (show RdV wr A5 (NumV (tabN (qJF l) m)) by rw [JM.out]at hr5;exact hr5)
     clear hu5 hr5 O hin
     go_upto_region 15 with fail
     clear hF hF2
     go_wp2_with fail
     have RF:=Lh (RdV.row (w:=wr.alloc (.cells #[.int .i64 5] 3)) (g:=wr.heap.size) (l:=NumV [5]) (t:=3) (fr:=(0,0)) (qQk wr _ _ rfl))
     have B2:=Lh (qWT wr (.cells #[.int .i64 5] 3))
     obtain⟨hx,hhx⟩:∃h,h=valB l/M130:=⟨_,rfl⟩
     have HV:=Lh (show valB (tabN (qJF l) m)=hx by rw [hhx];exact high_val l m (by rw [N.out];have:=ME.out;omega) D.out)
     have LV:=Lh (show valB (qVX l)=valB l % M130 from lowL_val l D.out)
     have HX:=Lh hhx
     clear hhx
     refine(ntim_any (tabN (qJF l) m) [5] (tabN_le (highF_le l D.out) m) (by decide) A5 m c5 (qQQ _ _) (some ⟨wr.heap.size,0,none⟩) 1 1 rfl (by have:=ME.out;omega) (by omega) _ (R5.out.keep B2.out) RF.out).mono ?_
     rw[HV.out]
     rintro e w2 ⟨v,o,rfl,ho,hdg,hb⟩
     obtain⟨A6,c6,rfl,hr6,_,_,_⟩:=ho.read
     rw[qQC]
     have R6:=Lh hr6
     have T6:=Lh hdg
     have B3:=Lh (B2.out.trans (hb.mono (by rw [qQD];omega)))
     have RL2:=Lh (((RL.out.keep S2.out).keep B3.out))
     clear ho hr6 hdg hb
     have X37:=Lh (show valB l<256 ^ 37 by rw [V.out];exact Nat.lt_of_le_of_lt (foldK_le _ _) XB.out)
     have FM:=Lh (show valB (qVX l)+hx*valB [5]=qXY (k+1) x0 by
      have e5:valB [5]=5:=rfl
      rw[LV.out,HX.out,e5,Nat.mul_comm,V.out]
      rfl)
     have OL:=Lh (show o.length≤max (m+1) 37 by
      have:=T6.out.few (by
       have h1:hx*valB [5]≤qXY (k+1) x0:=by rw [←FM.out];omega
       have h2:=foldK_le (k+1) x0
       have:=XB.out
       omega)
      have e1:([5]:List Nat).length=1:=rfl
      omega)
     have OL6:=Lh (show o.length≤60 by have:=OL.out;have:=ME.out;have:=M.out;omega)
     go_wp2_with fail
     refine(nsum_any (qVX l) o (lowL_dig l D.out) T6.out.d255 A4 q c4 (by rw [←qQC];exact QL.out) A6 o.length c6 rfl (by omega) (by have:=OL6.out;omega) w2 RL2.out R6.out).mono ?_
     rw[T6.out.val,FM.out]
     rintro e w3 ⟨v,o3,rfl,ho,hdg,hb⟩
     obtain⟨A7,c7,rfl,hr7,_,_,_⟩:=ho.read
     rw[qQC]
     have R7:=Lh hr7
     have T7:=Lh hdg
     have B4:=Lh (SC.out.trans ((S2.out.mono SC.out.size).trans ((B3.out.mono (kQk SC.out.size S2.out.size)).trans (hb.mono (kQk SC.out.size (kQk S2.out.size B3.out.size))))))
     have O3L:=Lh (show o3.length≤60∧(1≤k+1→o3.length≤45)∧(2≤k+1→o3.length≤37) by
      have:=hdg.few (Nat.lt_of_le_of_lt (foldK_le _ _) XB.out)
      have:=OL.out
      have:=ME.out
      have:=M.out
      have h45:=MK.out.2.1
      refine⟨by omega,fun _=>by omega,fun h=>?_⟩
      have:=h45 (by omega)
      omega)
     clear ho hr7 hdg hb
     go_wp2_with fail
     go_roundw
     case rel=>exact⟨k+1,o3,A7,o3.length,c7,by have:=K8.out;omega,by go_num,rfl,rfl,O3L.out,R7.out,T7.out.d255,T7.out.val,S.out.trans (B4.out.mono S.out.size)⟩
     case measure=>have:=K8.out;simp [intOf];omega
  ·have hD:decide ((k:Int)<8)=false:=by simp;omega
   have K8:=Lh (show k=8 by have:=K.out;omega)
   have Y0:=Lh (show valB l<M130 by rw [V.out,K8.out];exact foldK_lt x0 XB.out)
   have Y1:=Lh (show valB l % PN=x0 % PN by rw [V.out];exact foldK_mod _ _)
   clear hlt
   go_wp2_with fail
   clear hD
   go_loopw [0,8] (fun u i wq=>∃(t:Nat) (o:List Nat) (A:Option Addr) (n c:Nat),t≤1∧i=.int .i64 (t:Int)∧u=.slice A n c∧o.length=n∧n≤37∧RdV wq A (NumV o)∧(∀d∈o,d≤255)∧valB o % PN=x0 % PN∧valB o<M130∧(t=1→valB o<PN)∧Below w.heap.size w wq) (fun _ i _=>2-(intOf i).toNat)
   case atStart=>exact⟨0,l,A,n,c,by omega,rfl,rfl,N.out,MK.out.2.2 (by have:=K8.out;omega),R.out,D.out,Y1.out,Y0.out,fun h=>by omega,S.out⟩
   case round=>
    obtain⟨t,o,A9,n9,c9,ht,rfl,rfl,hn,hm,hr,hd,hy1,hy0,ht1,hb⟩:=hrel
    have T:=Lh ht
    have N9:=Lh hn
    have M9:=Lh hm
    have R9:=Lh hr
    have D9:=Lh hd
    have P1:=Lh hy1
    have P0:=Lh hy0
    have T1:=Lh ht1
    have S9:=Lh hb
    have tb:(t:Int)≤1:=by omega
    have hE:decide ((t:Int)<2)=true:=by simp;omega
    clear ht hn hm hr hd hy1 hy0 ht1 hb
    go_wp2_with fail
    refine(prime_any wr).mono ?_
    rintro e w1 ⟨v,rfl,ho,hb⟩
    obtain⟨Ap,cp,rfl,hrp,_,_,_⟩:=ho.read
    have PL:=Lh (show(NumV qKh).length=17 from rfl)
    rw[PL.out]
    have RP:=Lh hrp
    have R9:=Lh (R9.out.keep hb)
    have S9:=Lh (S9.out.trans (hb.mono S9.out.size))
    clear ho hrp hb
    go_wp2_with fail
    refine(below_any o qKh D9.out qYz A9 n9 c9 N9.out Ap 17 cp rfl (by have:=M9.out;omega) (by omega) w1 R9.out RP.out).mono ?_
    rw[qJ4]
    by_cases hlt:valB o<PN
    ·have hF:=Lh (show decide (valB o<PN)=true from decide_eq_true hlt)
     have FIN:=Lh (show valB o=x0 % PN by rw [←P1.out,Nat.mod_eq_of_lt hlt])
     clear hlt
     rw[hF.out]
     rintro e w2 ⟨rfl,hw⟩
     rw[hw]
     clear hw w2
     go_wp2_with fail
     go_ret
     exact⟨A9,c9,n9,o,rfl,N9.out,M9.out,R9.out,D9.out,FIN.out,S9.out⟩
    ·have hF:=Lh (show decide (valB o<PN)=false from decide_eq_false hlt)
     have GE:=Lh (show valB qKh≤valB o by rw [qJ4];omega)
     have T0:=Lh (show t=0 by
      have:=T.out
      by_cases h:t=1
      ·exact absurd (T1.out h) hlt
      ·omega)
     have NX:=Lh (show(valB o-PN) % PN=x0 % PN∧valB o-PN<PN by
      have h1:=P0.out
      have h2:=M130_PN
      have h3:5<PN:=by decide
      refine⟨?_,by omega⟩
      rw[←P1.out,Nat.mod_eq_sub_mod (show valB o≥PN by omega)])
     clear hlt
     rw[hF.out]
     rintro e w2 ⟨rfl,hw⟩
     rw[hw]
     clear hw w2
     go_wp2_with fail
     refine(prime_any w1).mono ?_
     rintro e w3 ⟨v,rfl,ho,hb⟩
     obtain⟨Ap,cp,rfl,hrp,_,_,_⟩:=ho.read
     rw[PL.out]
     have RP:=Lh hrp
     have R9:=Lh (R9.out.keep hb)
     have S9:=Lh (S9.out.trans (hb.mono S9.out.size))
     clear ho hrp hb
     go_wp2_with fail
     refine(less_any o qKh D9.out qYz GE.out A9 n9 c9 N9.out Ap 17 cp rfl (by have:=M9.out;omega) (by omega) w3 R9.out RP.out).mono ?_
     rw[qJ4]
     rintro e w4 ⟨v,o2,rfl,ho,hl2,hd2,hv2,hb⟩
     obtain⟨A2,c2,rfl,hr2,_,_,_⟩:=ho.read
     rw[qQC,hl2]
     have R2:=Lh hr2
     have L2:=Lh hl2
     have D2:=Lh hd2
     have V2:=Lh hv2
     have S9:=Lh (S9.out.trans (hb.mono S9.out.size))
     clear ho hr2 hl2 hd2 hv2 hb hE
     go_wp2_with fail
     go_roundw
     case rel=>exact⟨1,o2,A2,n9,c2,by omega,by rw [T0.out];go_num,rfl,L2.out,M9.out,R2.out,D2.out,by rw [V2.out];exact NX.out.1,by rw [V2.out];have:=NX.out.2;have:=M130_PN;omega,fun _=>by rw [V2.out];exact NX.out.2,S9.out⟩
     case measure=>have:=T0.out;simp [intOf];omega
def natL (l:List UInt8):List Nat:=l.map (·.toNat)
theorem qXc (l:List UInt8):(natL l).length=l.length:=by simp [natL]
theorem qK1 (l:List UInt8) (i:Nat) (h:i<l.length):natL (l.take (i+1))=natL (l.take i)++[(l.getD i 0).toNat]:=by
 rw[List.take_add_one,kQi h,natL,natL,List.map_append]
 simp [kQa,h]
theorem natL_le (l:List UInt8):∀d∈natL l,d≤255:=by
 intro d hd
 simp only [natL,List.mem_map]at hd
 obtain⟨x,_,rfl⟩:=hd
 have:=x.toNat_lt
 omega
theorem qKD (l:List UInt8):valB (natL l)=qZv l:=valB_bytes l
theorem of_any' (l:List UInt8) (n:Nat) (hn:l.length=n) (hm:n≤1000) (w:World) :
  Calls Tryz.prog 117 #[.string (strB l)] w fun e w'=>∃v,e=.returned v∧OwnV w' w.heap.size 3 v (NumV (natL (l++[1])))∧Below w.heap.size w w':=by
 have SZ:=qQH l
 rw[hn]at SZ
 have HN:=Lh hn
 have NT:=Lh numT
 have nb:(n:Int)≤1000:=by omega
 have HM:=Lh hm
 clear hn hm
 go_enter Tryz.func117,Tryz.ntmps117
 go_wp2_with fail
 go_loopw [3,4] (fun u i wr=>∃j:Nat,j≤n∧i=.int .i64 (j:Int)∧OwnV wr w.heap.size 3 u (NumV (natL (l.take j)))∧Below w.heap.size w wr) (fun _ i _=>n-(intOf i).toNat)
 case atStart=>exact⟨0,by omega,rfl,OwnV.nil _ _ _,Below.refl _ _⟩
 case round=>
  obtain⟨j,hj,rfl,ho,hb⟩:=hrel
  have J:=Lh hj
  have O:=Lh ho
  have S:=Lh hb
  clear hj ho hb
  have LN:=Lh (show(NumV (natL (l.take j))).length≤1000 by rw [qQC,qXc,kQp];have:=HN.out;have:=HM.out;omega)
  by_cases hlt:j<n
  ·have hD:decide ((j:Int)<(n:Int))=true:=by simp;omega
   have hD2:decide (j<n)=true:=by simp;omega
   have jb:(j:Int)<(n:Int):=by omega
   obtain⟨y,hy⟩:∃y,y=l.getD j 0:=⟨_,rfl⟩
   have YE:=Lh hy
   obtain⟨q,hq⟩:∃q:Nat,q=y.toNat:=⟨_,rfl⟩
   have eq:(y.toNat:Int)=(q:Int):=by rw [hq]
   have qb:(q:Int)≤255:=by have:=y.toNat_lt;omega
   have TE:=Lh (show NumV (natL (l.take (j+1)))=NumV (natL (l.take j))++[.int .i64 (q:Int)] by rw [qK1 l j (by rw [HN.out];exact hlt),qZk,←hy,←hq];rfl)
   clear hy hq
   go_upto_region 5 with fail
   clear SZ
   go_wp2_with (first
    | (refine qQa rfl (qQV 9 (.tmp 12) (.tmp 13) rfl Tryz.underlying9 l j y YE.out (by rw [HN.out];exact hlt) .i64 _ rfl rfl rfl _) ?_)
    | (refine qZp rfl NT.out (.tmp 11) (.tmp 16) rfl w.heap.size _ (NumV (natL (l.take j))) [.int .i64 (q:Int)] (some ⟨wr.heap.size,0,none⟩) 1 1 rfl rfl rfl (O.out.alloc _) (RdV.one (qQg (fr:=(0,0)) (qQk wr _ _ rfl) 0 rfl)) (by intro u hu;simp at hu;subst hu;rfl) ?c1 ?c2 ?c3 ?_))
   case c1=>have:=S.out.size;rw [qQD];omega
   case c2=>have:=LN.out;omega
   case c3=>have:=LN.out;omega
   intro v2 w2 ho hg _
   have B2:Below w.heap.size w (wr.alloc (.cells #[.int .i64 (q:Int)] 3)):=S.out.alloc S.out.size _
   have S3:=Lh (B2.trans (qQi hg (by rw [qQD];have:=S.out.size;omega) (fun q e=>(O.out.lt q e).1)))
   have O2:=Lh (show OwnV w2 w.heap.size 3 v2 (NumV (natL (l.take (j+1)))) by rw [TE.out];exact ho)
   clear ho hg B2 hD hD2 eq
   go_wp2_with fail
   go_roundw
   case rel=>exact⟨j+1,by omega,by go_num,O2.out,S3.out⟩
   case measure=>simp [intOf];omega
  ·have hD:decide ((j:Int)<(n:Int))=false:=by simp;omega
   have hD2:decide (j<n)=false:=by simp;omega
   have TE:=Lh (show l.take j=l from kQn (by rw [HN.out];omega))
   clear hlt
   go_wp2_with (refine qZp rfl NT.out (.tmp 18) (.tmp 19) rfl w.heap.size _ (NumV (natL (l.take j))) [.int .i64 1] (some ⟨wr.heap.size,0,none⟩) 1 1 rfl rfl rfl (O.out.alloc _) (RdV.one (qQg (fr:=(0,0)) (qQk wr _ _ rfl) 0 rfl)) (by intro u hu;simp at hu;subst hu;rfl) ?c1 ?c2 ?c3 ?_)
   case c1=>have:=S.out.size;rw [qQD];omega
   case c2=>have:=LN.out;omega
   case c3=>have:=LN.out;omega
   intro v2 w2 ho hg _
   have B2:Below w.heap.size w (wr.alloc (.cells #[.int .i64 1] 3)):=S.out.alloc S.out.size _
   have S3:=Lh (B2.trans (qQi hg (by rw [qQD];have:=S.out.size;omega) (fun q e=>(O.out.lt q e).1)))
   have O2:=Lh (show OwnV w2 w.heap.size 3 v2 (NumV (natL (l++[1]))) by
    have h:=ho
    rw[TE.out]at h
    have e:natL (l++[1])=natL l++[1]:=by simp [natL]
    rw[e,qZk]
    exact h)
   clear ho hg B2 SZ
   go_wp2_with fail
   go_ret
   exact⟨_,rfl,O2.out,S3.out⟩
def qVs (b:List UInt8):Nat→List UInt8
 | 0=>b
 | j+1=>(qVs b j).set (3+4*j) ((qVs b j).getD (3+4*j) 0 &&& 15)
def qYm (b:List UInt8):Nat→List UInt8
 | 0=>b
 | j+1=>(qYm b j).set (4+4*j) ((qYm b j).getD (4+4*j) 0 &&& 252)
theorem qW4 (b:List UInt8):∀j,(qVs b j).length=b.length
 | 0=>rfl
 | j+1=>by rw [qVs,List.length_set,qW4 b j]
theorem qVw (b:List UInt8):∀j,(qYm b j).length=b.length
 | 0=>rfl
 | j+1=>by rw [qYm,List.length_set,qVw b j]
theorem clamp_parts (b:List UInt8) (h:b.length=16):qYm (qVs b 4) 3=qV0 b:=by
 obtain⟨a,b,c,d,e,f,g,h,i,j,k,l,m,n,o,p,rfl⟩:=list16 b h
 rw[clampL_form]
 rfl
theorem and15_ex (c:UInt8):∃z:UInt8,Hid (z=c &&& 15)∧((c.toNat:Int) % 16)=(z.toNat:Int):=by
 refine⟨_,rfl,?_⟩
 rw[UInt8.toNat_and,show(15:UInt8).toNat=2 ^ 4-1 from rfl,Nat.and_two_pow_sub_one_eq_mod]
 omega
theorem and252:∀x:Fin 256,(x.val/4*4)=x.val &&& 252:=by decide +kernel
theorem and252_ex (c:UInt8):∃z:UInt8,Hid (z=c &&& 252)∧((c.toNat:Int)/4*4)=(z.toNat:Int):=by
 refine⟨_,rfl,?_⟩
 rw[UInt8.toNat_and,show(252:UInt8).toNat=252 from rfl,←and252 ⟨c.toNat,c.toNat_lt⟩]
 show(c.toNat:Int)/4*4=((c.toNat/4*4:Nat):Int)
 omega
theorem clampR_any (b:List UInt8) (hb:b.length=16) (w:World) :
  Calls Tryz.prog 113 #[.agg (W8 b)] w fun e w'=>e=.returned (.agg (W8 (qV0 b)))∧Below w.heap.size w w':=by
 have HB:=Lh hb
 have Z:=Lh qKz
 clear hb
 go_enter Tryz.func113,Tryz.ntmps113
 go_wp2_with fail
 rw[←Z.out]
 obtain⟨w1,hw1⟩:∃w1,w1=(w.alloc (.cells (W8 b) 155)).alloc (.cells (W8 Z16) 155):=⟨_,rfl⟩
 have S1:=Lh (show BW w 155 w.heap.size (qVs b 0) w1∧BW w 155 (w.heap.size+1) Z16 w1 by
  have hb:Below w.heap.size w w1:=by rw [hw1];exact((Below.refl _ _).alloc (kQh _) _).alloc (by simp) _
  rw[hw1]at hb ⊢
  exact⟨⟨qQM _ _ _ (by simp) (qQk _ _ _ rfl),by omega,hb⟩,⟨qQk _ _ _ (by simp),by omega,hb⟩⟩)
 rw[←hw1]
 clear hw1
 go_loopw [3] (fun u wr=>∃t:Nat,t≤4∧u=.int .i64 (3+4*(t:Int))∧BW w 155 w.heap.size (qVs b t) wr∧BW w 155 (w.heap.size+1) Z16 wr) (fun u _=>20-(intOf u).toNat)
 case atStart=>exact⟨0,by omega,rfl,S1.out⟩
 case round=>
  obtain⟨t,ht,rfl,hs⟩:=hrel
  have T:=Lh ht
  have S2:=Lh hs
  clear ht hs S1
  obtain⟨q,hq⟩:∃q,q=qVs b t:=⟨_,rfl⟩
  rw[←hq]at S2
  have QL:=Lh (show q.length=16 by rw [hq];simp only [qW4,qVw];exact HB.out)
  have Q:=Lh hq
  clear hq
  have t4:(t:Int)≤4:=by have:=T.out;omega
  have b0:(0:Int)≤3+4*(t:Int):=by omega
  by_cases hlt:t<4
  ·have hD:decide (3+4*(t:Int)<16)=true:=by simp;omega
   obtain⟨x,hx⟩:∃x,x=q.getD (3+4*t) 0:=⟨_,rfl⟩
   have a1:=qQg S2.out.1.b (3+4*t) (qZ4 _ (3+4*t) (by rw [QL.out];omega))
   have f1:=qQz S2.out.1.b (3+4*t)
   rw[←hx]at a1
   have X:=Lh hx
   obtain⟨y,hy,e1⟩:=and15_ex x
   have e2:(3+4*(t:Int)).toNat=3+4*t:=by omega
   have b1:3+4*(t:Int)<16:=by omega
   have xb:=u8_lt x
   clear hx
   go_upto_region 3 with fail
   rw[show World.setCell wr ⟨w.heap.size,3+4*t,none⟩ _=World.setCell wr ⟨w.heap.size,3+4*t,none⟩ (.int .u8 (y.toNat:Int))from rfl]
   obtain⟨w3,hw3⟩:∃w3,w3=World.setCell wr ⟨w.heap.size,3+4*t,none⟩ (.int .u8 (y.toNat:Int)):=⟨_,rfl⟩
   rw[←hw3]
   have S3:=Lh (show BW w 155 w.heap.size (qVs b (t+1)) w3∧BW w 155 (w.heap.size+1) Z16 w3 by
    have e:qVs b (t+1)=q.set (3+4*t) y:=by rw [hy.out,X.out,Q.out];rfl
    rw[e,hw3]
    exact⟨S2.out.1.set _ _,S2.out.2.away (by omega) (by omega) (qJH _ _ _ _)⟩)
   clear hw3 e1 e2 a1 f1 hD
   go_wp2_with fail
   go_roundw
   case rel=>exact⟨t+1,by omega,by go_num,S3.out⟩
   case measure=>simp [intOf];omega
  ·have hD:decide (3+4*(t:Int)<16)=false:=by simp;omega
   have TE:=Lh (show t=4 by have:=T.out;omega)
   clear hlt
   obtain⟨c,hc⟩:∃c,c=qVs b 4:=⟨_,rfl⟩
   have CE:=Lh hc
   have CL:=Lh (show c.length=16 by rw [hc,qW4];exact HB.out)
   have S1:=Lh (show BW w 155 w.heap.size (qYm c 0) wr∧BW w 155 (w.heap.size+1) Z16 wr by
    have h:=S2.out
    rw[Q.out,TE.out,←hc]at h
    exact h)
   clear hc
   go_wp2_with fail
   clear hD T t4 b0 TE Q QL S2
   go_loopw [4] (fun u wr=>∃t:Nat,t≤3∧u=.int .i64 (4+4*(t:Int))∧BW w 155 w.heap.size (qYm c t) wr∧BW w 155 (w.heap.size+1) Z16 wr) (fun u _=>20-(intOf u).toNat)
   case atStart=>exact⟨0,by omega,rfl,S1.out⟩
   case round=>
    obtain⟨t,ht,rfl,hs⟩:=hrel
    have T:=Lh ht
    have S2:=Lh hs
    clear ht hs S1
    obtain⟨q,hq⟩:∃q,q=qYm c t:=⟨_,rfl⟩
    rw[←hq]at S2
    have QL:=Lh (show q.length=16 by rw [hq];rw [qVw];exact CL.out)
    have Q:=Lh hq
    clear hq
    have t4:(t:Int)≤3:=by have:=T.out;omega
    have b0:(0:Int)≤4+4*(t:Int):=by omega
    by_cases hlt:t<3
    ·have hD:decide (4+4*(t:Int)<16)=true:=by simp;omega
     obtain⟨x,hx⟩:∃x,x=q.getD (4+4*t) 0:=⟨_,rfl⟩
     have a1:=qQg S2.out.1.b (4+4*t) (qZ4 _ (4+4*t) (by rw [QL.out];omega))
     have f1:=qQz S2.out.1.b (4+4*t)
     rw[←hx]at a1
     have X:=Lh hx
     obtain⟨y,hy,e1⟩:=and252_ex x
     have e2:(4+4*(t:Int)).toNat=4+4*t:=by omega
     have b1:4+4*(t:Int)<16:=by omega
     have xb:=u8_lt x
     clear hx
     go_upto_region 7 with fail
     rw[show World.setCell wr ⟨w.heap.size,4+4*t,none⟩ _=World.setCell wr ⟨w.heap.size,4+4*t,none⟩ (.int .u8 (y.toNat:Int))from rfl]
     obtain⟨w3,hw3⟩:∃w3,w3=World.setCell wr ⟨w.heap.size,4+4*t,none⟩ (.int .u8 (y.toNat:Int)):=⟨_,rfl⟩
     rw[←hw3]
     have S3:=Lh (show BW w 155 w.heap.size (qYm c (t+1)) w3∧BW w 155 (w.heap.size+1) Z16 w3 by
      have e:qYm c (t+1)=q.set (4+4*t) y:=by rw [hy.out,X.out,Q.out];rfl
      rw[e,hw3]
      exact⟨S2.out.1.set _ _,S2.out.2.away (by omega) (by omega) (qJH _ _ _ _)⟩)
     clear hw3 e1 e2 a1 f1 hD
     go_wp2_with fail
     go_roundw
     case rel=>exact⟨t+1,by omega,by go_num,S3.out⟩
     case measure=>simp [intOf];omega
    ·have hD:decide (4+4*(t:Int)<16)=false:=by simp;omega
     have TE:=Lh (show t=3 by have:=T.out;omega)
     clear hlt
     have QE:=Lh (show q=qV0 b by rw [Q.out,TE.out,CE.out];exact clamp_parts b HB.out)
     go_wp2_with (first
      | (refine wpList_load_row rfl 155 (.tmp 1) rfl w.heap.size rfl 155 (W8 q) (0,0) _ S2.out.1.b Tryz.underlying155 rfl (qZK QL.out) ?_)
      | (refine qQf rfl rfl 155 (.tmp 2) (.tmp 26) rfl (w.heap.size+1) (W8 q) rfl rfl 155 _ S2.out.2.b (qZK QL.out) (by rw [qQw,qQw,QL.out];rfl) (qZg _) ?_;intro w8 hz8 hg8 _))
     exact bodyPost_ret (results_cell_row rfl _ _ (w.heap.size+1) 155 (W8 q) (0,0) _ rfl hz8 Tryz.underlying155 rfl (qZK QL.out)) rfl ⟨by rw [QE.out],S2.out.2.ret hg8⟩
theorem valB_digit (o:List Nat) (ho:∀d∈o,d≤255) (j:Nat):o.getD j 0=valB o/256 ^ j % 256:=by
 have h1:=qXL o j
 have h2:=tab_lt o ho j
 have h3:=qXm o j
 have h4:=qZL ho j
 rw[h1,Nat.add_mul_div_left _ _ (Nat.pow_pos (by omega)),Nat.div_eq_of_lt h2,Nat.zero_add,h3]
 omega
theorem bytesN_low (x y:Nat) (h:x % 256 ^ 16=y % 256 ^ 16):qWw x=qWw y:=by
 unfold qWw
 apply List.map_congr_left
 intro j hj
 have hj16:j<16:=by simpa using hj
 apply UInt8.toNat_inj.1
 simp only [UInt8.toNat_ofNat',Nat.reducePow]
 obtain⟨k,hk⟩:∃k,16=j+1+k:=⟨16-(j+1),by omega⟩
 have key:∀z:Nat,z/256 ^ j % 256=(z % 256 ^ 16)/256 ^ j % 256:=by
  intro z
  rw[hk,Nat.pow_add,Nat.mod_mul,Nat.pow_succ,Nat.mul_assoc,Nat.add_mul_div_left _ _ (Nat.pow_pos (by omega)),Nat.add_mul_mod_self_left,Nat.mod_mul,Nat.add_mul_div_left _ _ (Nat.pow_pos (by omega)),Nat.div_eq_of_lt (Nat.mod_lt _ (Nat.pow_pos (by omega))),Nat.zero_add,Nat.mod_mod]
 rw[key x,key y,h]
theorem bytesN_tag (x:Nat) (s:List UInt8):qWw (x+qZv s)=qWw (tagN x s):=by
 apply bytesN_low
 unfold tagN
 rw[show(340282366920938463463374607431768211456:Nat)=256 ^ 16 from by decide +kernel]
 rw[Nat.mod_add_mod]
theorem poly_small (acc:Nat) (b r:List UInt8) (ha:acc<PN) (hb:b.length≤16) (hr:r.length≤16):(acc+qZv (b++[1]))*qZv r<256 ^ 37:=by
 have h1:qZv (b++[1])<256 ^ 17:=by
  have:=qW5 (b++[1])
  rw[kQj,List.length_singleton]at this
  exact kQb this (Nat.pow_le_pow_right (by omega) (by omega))
 have h2:qZv r<256 ^ 16:=kQb (qW5 r) (Nat.pow_le_pow_right (by omega) hr)
 have h3:PN<256 ^ 17:=by decide +kernel
 have h4:(acc+qZv (b++[1]))*qZv r≤(2*256 ^ 17)*256 ^ 16:=Nat.mul_le_mul (by omega) (by omega)
 have h5:(2*256 ^ 17)*256 ^ 16<256 ^ 37:=by decide +kernel
 omega
structure PtW (w:World) (key half:List UInt8) (W:World):Prop where
 bk:BW w 37 w.heap.size key W
 bo:BW w 155 (w.heap.size+1) Z16 W
 bh:BW w 155 (w.heap.size+1+1) half W
theorem PtW.keep {w W W':World} {key half:List UInt8} (h:PtW w key half W) (hb:Below W.heap.size W W'):PtW w key half W':=⟨h.bk.keep hb,h.bo.keep hb,h.bh.keep hb⟩
theorem PtW.own {w W W':World} {key half:List UInt8} {r:Option Nat} (h:PtW w key half W) (hg:W.grownBy W' r) (hr:∀g,r=some g→w.heap.size+1+1<g):PtW w key half W':=by
 have hb:Below w.heap.size W W':=qQi hg h.bk.bel.size (fun g e=>by have:=hr g e;omega)
 exact⟨⟨qQd hg (fun e=>by have:=hr _ e.symm;omega) h.bk.b,h.bk.hg,h.bk.bel.trans hb⟩,⟨qQd hg (fun e=>by have:=hr _ e.symm;omega) h.bo.b,h.bo.hg,h.bo.bel.trans hb⟩,⟨qQd hg (fun e=>by have:=hr _ e.symm;omega) h.bh.b,h.bh.hg,h.bh.bel.trans hb⟩⟩
theorem PtW.lt {w W:World} {key half:List UInt8} (h:PtW w key half W):w.heap.size+1+1<W.heap.size:=qQe h.bh.b
theorem qWL (key:List UInt8) (hk:key.length=32) (l:List UInt8) (n:Nat) (hn:l.length=n) (hm:n≤3000) (w:World) :
  Calls Tryz.prog 99 #[.agg (W8 key),.string (strB l)] w fun e w'=>e=.returned (.agg (W8 (polyL key l)))∧Below w.heap.size w w':=by
 have SZ0:=qQH l
 rw[hn]at SZ0
 have SZ:=Lh SZ0
 have HN:=Lh hn
 have HK:=Lh hk
 have HM:=Lh hm
 have NT:=Lh numT
 have Z:=Lh qKz
 have nb:(n:Int)≤3000:=by omega
 obtain⟨P,hP⟩:∃P,P=polyL key l:=⟨_,rfl⟩
 rw[←hP]
 have PE:=Lh hP
 obtain⟨k16,hk16⟩:∃k,k=key.take 16:=⟨_,rfl⟩
 have KE:=Lh hk16
 have HL:=Lh (show k16.length=16 by rw [hk16,kQp,hk];rfl)
 have DL:=Lh (show(key.drop 16).length=16 by rw [kQv,hk])
 clear SZ0 hn hk hm hP hk16
 go_enter Tryz.func99,Tryz.ntmps99
 go_upto_block 0 with fail
 rw[←Z.out]
 generalize hw1:World.alloc w _=w1
 generalize hw2:World.alloc w1 _=w2
 generalize hw3:World.alloc w2 _=w3
 have S:=Lh (show PtW w key (qXF k16 0) w3 by
  have s1:w1.heap.size=w.heap.size+1:=by rw [←hw1,qQD]
  have s2:w2.heap.size=w.heap.size+1+1:=by rw [←hw2,qQD,s1]
  have hb:Below w.heap.size w w3:=by rw [←hw3,←hw2,←hw1];exact(((Below.refl _ _).alloc (kQh _) _).alloc (by simp) _).alloc (by simp<;>omega) _
  have eZ:qXF k16 0=Z16:=by rw [qX3,HL.out];rfl
  rw[eZ]
  refine⟨⟨?_,by omega,hb⟩,⟨?_,by omega,hb⟩,⟨?_,by omega,hb⟩⟩
  ·rw [←hw3];exact qQM _ _ _ (by omega) (by rw [←hw2];exact qQM _ _ _ (by omega) (by rw [←hw1];exact qQk _ _ _ rfl))
  ·rw [←hw3];exact qQM _ _ _ (by omega) (by rw [←hw2];exact qQk _ _ _ s1.symm)
  ·rw [←hw3];exact qQk _ _ _ s2.symm)
 clear hw1 hw2 hw3
 go_cut [5] (fun v wx=>v=.pointer (some ⟨w.heap.size+1+1,0,none⟩)∧PtW w key k16 wx)
 case first=>
  go_wp2_with fail
  go_loopw [6] (fun i wr=>∃j:Nat,j≤16∧i=.int .i64 (j:Int)∧PtW w key (qXF k16 j) wr) (fun i _=>16-(intOf i).toNat)
  case atStart=>exact⟨0,by omega,rfl,S.out⟩
  case round=>
   obtain⟨j,hj,rfl,hs⟩:=hrel
   have J:=Lh hj
   have S2:=Lh hs
   clear hj hs
   by_cases hlt:j<16
   ·have hD:decide ((j:Int)<16)=true:=by simp;omega
    obtain⟨x,hx⟩:∃x,x=key.getD j 0:=⟨_,rfl⟩
    have XE:=Lh (show x=k16.getD j 0 by rw [hx,KE.out];simp [kQa,List.getElem?_take,hlt])
    have a1:=qQg S2.out.bk.b j (qZ4 _ j (by rw [HK.out];omega))
    rw[←hx]at a1
    have a2:=qQg S2.out.bh.b j (qZ4 _ j (by rw [qZV,HL.out];omega))
    have f2:=qQz S2.out.bh.b j
    have jb:(j:Int)<16:=by omega
    have J16:=Lh hlt
    clear hx hlt
    go_upto_region 4 with fail
    obtain⟨w4,hw4⟩:∃w4,w4=wr.setCell ⟨w.heap.size+1+1,j,none⟩ (.int .u8 (x.toNat:Int)):=⟨_,rfl⟩
    rw[←hw4]
    have S3:=Lh (show PtW w key (qXF k16 (j+1)) w4 by
     rw[hw4,←qWN _ _ (by rw [HL.out];exact J16.out),←XE.out]
     exact⟨S2.out.bk.away (by omega) (by omega) (qJH _ _ _ _),S2.out.bo.away (by omega) (by omega) (qJH _ _ _ _),S2.out.bh.set _ _⟩)
    clear hw4 a1 a2 f2 hD
    go_wp2_with fail
    go_roundw
    case rel=>exact⟨j+1,by have:=J16.out;omega,by go_num,S3.out⟩
    case measure=>have:=J16.out;simp [intOf];omega
   ·have hD:decide ((j:Int)<16)=false:=by simp;omega
    have J16:=Lh (show j=16 by have:=J.out;omega)
    go_wp2_with fail
    go_meet
    refine⟨rfl,?_⟩
    have h:=S2.out
    rw[J16.out,←HL.out,qX4]at h
    exact h
 case rest=>
 obtain⟨rfl,hs⟩:=hcut
 have S:=Lh hs
 clear hs
 go_wp2_with (refine qQa rfl (qQj 155 (.tmp 5) rfl (w.heap.size+1+1) rfl 155 (W8 k16) (0,0) _ S.out.bh.b Tryz.underlying155 rfl (qZK HL.out)) ?_)
 refine(clampR_any k16 HL.out wc).mono ?_
 obtain⟨half,hhalf⟩:∃h,h=qV0 k16:=⟨_,rfl⟩
 rw[←hhalf]
 have HE:=Lh hhalf
 have HL2:=Lh (show half.length=16 by rw [hhalf,qJK,HL.out])
 rintro e w4 ⟨rfl,hb⟩
 have S:=Lh (S.out.keep hb)
 clear hb hhalf
 go_upto_region 7 with (refine qXr rfl 155 (.tmp 5) (.tmp 24) rfl (w.heap.size+1+1) 0 (W8 half) rfl rfl _ _ S.out.bh.b (qZK HL2.out) (by rw [qQw,qQw,HL2.out,HL.out];omega) (qZg _) ?_;intro w5 hz5 hg5 hs5)
 have S:=Lh (show PtW w key half w5 from⟨S.out.bk.away (by omega) (by omega) hg5,S.out.bo.away (by omega) (by omega) hg5,⟨by
  rw[hz5]
  congr 2
  rw[List.take_zero,List.nil_append,kQt (by rw [qQw,HL2.out];have:=HL.out;simp [W8];omega),List.append_nil],by omega,S.out.bh.ret hg5⟩⟩)
 clear hz5 hg5 hs5
 go_upto_block 2 with fail
 obtain⟨s,hs⟩:∃s,s=key.drop 16:=⟨_,rfl⟩
 have SE:=Lh hs
 have SL:=Lh (show s.length=16 by rw [hs];exact DL.out)
 clear hs
 go_cut [7,8] (fun u v wx=>∃A c A' c',u=.slice A 16 c∧v=.slice A' 16 c'∧RdV wx A (NumV (natL half))∧RdV wx A' (NumV (natL s))∧PtW w key half wx)
 case first=>
  go_wp2_with fail
  go_loopw [7,8,10] (fun u v i wr=>∃j:Nat,j≤16∧i=.int .i64 (j:Int)∧OwnV wr w5.heap.size 3 u (NumV (natL (half.take j)))∧OwnV wr w5.heap.size 3 v (NumV (natL (s.take j)))∧(∀g,u.ownBlock=some g→v.ownBlock≠some g)∧PtW w key half wr∧w5.heap.size≤wr.heap.size) (fun _ _ i _=>16-(intOf i).toNat)
  case atStart=>exact⟨0,by omega,rfl,OwnV.nil _ _ _,OwnV.nil _ _ _,by simp [Value.ownBlock],S.out,kQh _⟩
  case round=>
   obtain⟨j,hj,rfl,ho7,ho8,hne,hs,hsz⟩:=hrel
   have J:=Lh hj
   have O7:=Lh ho7
   have O8:=Lh ho8
   have NE:=Lh hne
   have S2:=Lh hs
   have Z2:=Lh hsz
   have L5:=Lh S.out.lt
   clear hj ho7 ho8 hne hs hsz
   by_cases hlt:j<16
   ·have hD:decide ((j:Int)<16)=true:=by simp;omega
    have J16:=Lh hlt
    obtain⟨x,hx⟩:∃x,x=half.getD j 0:=⟨_,rfl⟩
    obtain⟨y,hy⟩:∃y,y=s.getD j 0:=⟨_,rfl⟩
    obtain⟨a,ha⟩:∃a:Nat,a=x.toNat:=⟨_,rfl⟩
    obtain⟨b,hb⟩:∃b:Nat,b=y.toNat:=⟨_,rfl⟩
    have ea:(x.toNat:Int)=(a:Int):=by rw [ha]
    have eb:(y.toNat:Int)=(b:Int):=by rw [hb]
    have ab:(a:Int)≤255:=by have:=x.toNat_lt;omega
    have bb:(b:Int)≤255:=by have:=y.toNat_lt;omega
    have TA:=Lh (show NumV (natL (half.take (j+1)))=NumV (natL (half.take j))++[.int .i64 (a:Int)] by rw [qK1 half j (by rw [HL2.out];exact hlt),qZk,←hx,←ha];rfl)
    have TB:=Lh (show NumV (natL (s.take (j+1)))=NumV (natL (s.take j))++[.int .i64 (b:Int)] by rw [qK1 s j (by rw [SL.out];exact hlt),qZk,←hy,←hb];rfl)
    have a1:=qQg S2.out.bh.b j (qZ4 _ j (by rw [HL2.out];exact hlt))
    rw[←hx]at a1
    have jb:(j:Int)<16:=by omega
    have LA:=Lh (show(NumV (natL (half.take j))).length≤16 by rw [qQC,qXc,kQp];omega)
    have LBB:=Lh (show(NumV (natL (s.take j))).length≤16 by rw [qQC,qXc,kQp];omega)
    have YK:=Lh (show key.getD (16+j) 0=y by rw [hy,SE.out];simp [kQa,List.getElem?_drop])
    clear hx hy ha hb hlt
    go_wp2_with (refine qZp rfl NT.out (.tmp 29) (.tmp 34) rfl w5.heap.size _ (NumV (natL (half.take j))) [.int .i64 (a:Int)] (some ⟨wr.heap.size,0,none⟩) 1 1 rfl rfl rfl (O7.out.alloc _) (RdV.one (qQg (fr:=(0,0)) (qQk wr _ _ rfl) 0 rfl)) (by intro u hu;simp at hu;subst hu;rfl) ?c1 ?c2 ?c3 ?_)
    case c1=>have:=Z2.out;rw [qQD];omega
    case c2=>have:=LA.out;omega
    case c3=>have:=LA.out;omega
    intro v7 w6 ho hg hat
    obtain⟨wa,hwa⟩:∃wa,wa=wr.alloc (.cells #[.int .i64 (a:Int)] 3):=⟨_,rfl⟩
    rw[←hwa]at hg
    have bA:=Lh (show Below wr.heap.size wr wa by rw [hwa];exact qWT _ _)
    have SA:=Lh (S2.out.keep bA.out)
    have S3:=Lh (SA.out.own hg (fun g e=>by have:=(O7.out.lt g e).1;have:=L5.out;omega))
    have Z3:=Lh (kQk Z2.out (kQk bA.out.size hg.size))
    have O8b:=Lh ((O8.out.below bA.out).grown hg (by
     rcases hq:u8.ownBlock with _|g
     ·exact .inl rfl
     ·exact .inr (fun h=>NE.out g h.symm hq)))
    have NE:=Lh (show ∀g,v7.ownBlock=some g→u8.ownBlock≠some g by
     intro g hg' he
     rcases hat with h|h
     ·exact NE.out g (h ▸ hg') he
     ·rw [h]at hg'
      injection hg' with hg'
      have:=(O8.out.lt g he).2
      have:=bA.out.size
      omega)
    have O7b:=Lh (show OwnV w6 w5.heap.size 3 v7 (NumV (natL (half.take (j+1)))) by rw [TA.out];exact ho)
    have a2:=qQg S3.out.bk.b (16+j) (qZ4 _ (16+j) (by rw [HK.out];have:=J16.out;omega))
    rw[YK.out]at a2
    have e16:(16+(j:Int)).toNat=16+j:=by omega
    have b16:16+(j:Int)<32:=by omega
    clear ho hg hat hwa a1 ea O7 O8 SA bA hD
    go_wp2_with (refine qZp rfl NT.out (.tmp 36) (.tmp 42) rfl w5.heap.size _ (NumV (natL (s.take j))) [.int .i64 (b:Int)] (some ⟨w6.heap.size,0,none⟩) 1 1 rfl rfl rfl (O8b.out.alloc _) (RdV.one (qQg (fr:=(0,0)) (qQk w6 _ _ rfl) 0 rfl)) (by intro u hu;simp at hu;subst hu;rfl) ?c1 ?c2 ?c3 ?_)
    case c1=>have:=Z3.out;rw [qQD];omega
    case c2=>have:=LBB.out;omega
    case c3=>have:=LBB.out;omega
    intro v8 w7 ho hg hat
    obtain⟨wa,hwa⟩:∃wa,wa=w6.alloc (.cells #[.int .i64 (b:Int)] 3):=⟨_,rfl⟩
    rw[←hwa]at hg
    have bA:=Lh (show Below w6.heap.size w6 wa by rw [hwa];exact qWT _ _)
    have SA:=Lh (S3.out.keep bA.out)
    have S4:=Lh (SA.out.own hg (fun g e=>by have:=(O8b.out.lt g e).1;have:=L5.out;omega))
    have Z4:=Lh (kQk Z3.out (kQk bA.out.size hg.size))
    have O7c:=Lh ((O7b.out.below bA.out).grown hg (by
     rcases hq:v7.ownBlock with _|g
     ·exact .inl rfl
     ·exact .inr (fun h=>NE.out g hq h.symm)))
    have NE:=Lh (show ∀g,v7.ownBlock=some g→v8.ownBlock≠some g by
     intro g hg' he
     rcases hat with h|h
     ·exact NE.out g hg' (h ▸ he)
     ·rw [h]at he
      injection he with he
      have:=(O7b.out.lt g hg').2
      have:=bA.out.size
      omega)
    have O8c:=Lh (show OwnV w7 w5.heap.size 3 v8 (NumV (natL (s.take (j+1)))) by rw [TB.out];exact ho)
    clear ho hg hat hwa a2 eb O7b O8b SA bA e16 b16
    go_wp2_with fail
    go_roundw
    case rel=>exact⟨j+1,by have:=J16.out;omega,by go_num,O7c.out,O8c.out,NE.out,S4.out,Z4.out⟩
    case measure=>have:=J16.out;simp [intOf];omega
   ·have hD:decide ((j:Int)<16)=false:=by simp;omega
    have J16:=Lh (show j=16 by have:=J.out;omega)
    obtain⟨A7,c7,hu7,hr7,_,_,_⟩:=O7.out.read
    obtain⟨A8,c8,hu8,hr8,_,_,_⟩:=O8.out.read
    have T7:=Lh (show half.take j=half from kQn (by rw [HL2.out,J16.out];omega))
    have T8:=Lh (show s.take j=s from kQn (by rw [SL.out,J16.out];omega))
    rw[qQC,qXc,T7.out,HL2.out]at hu7
    rw[qQC,qXc,T8.out,SL.out]at hu8
    rw[T7.out]at hr7
    rw[T8.out]at hr8
    have R7:=Lh hr7
    have R8:=Lh hr8
    rw[hu7,hu8]
    clear hu7 hu8 hr7 hr8 hlt
    go_wp2_with fail
    go_meet
    exact⟨A7,c7,A8,c8,rfl,rfl,R7.out,R8.out,S2.out⟩
 case rest=>
 obtain⟨A7,c7,A8,c8,rfl,rfl,hr7,hr8,hs⟩:=hcut
 have R7:=Lh hr7
 have R8:=Lh hr8
 have S:=Lh hs
 obtain⟨wm,hwm⟩:∃x:World,x=wc:=⟨_,rfl⟩
 rw[←hwm]at R7 R8 S ⊢
 clear hr7 hr8 hs hwm
 obtain⟨r0,hr0⟩:∃r,r=qZv half:=⟨_,rfl⟩
 have R0:=Lh hr0
 have PA:=Lh (show P=qWw (tagN (qVV r0 0 l) s) by rw [PE.out,polyL,←KE.out,←HE.out,←SE.out,←hr0])
 clear hr0
 go_wp2_with fail
 go_loopw [9,11] (fun u i wr=>∃(o:List Nat) (p:Nat) (A:Option Addr) (m c:Nat),p≤n+15∧i=.int .i64 (p:Int)∧u=.slice A m c∧o.length=m∧m≤37∧RdV wr A (NumV o)∧(∀d∈o,d≤255)∧qVV r0 0 l=qVV r0 (valB o) (l.drop p)∧valB o<PN∧Below wm.heap.size wm wr) (fun _ i _=>4000-(intOf i).toNat)
 case atStart=>exact⟨[],0,none,0,0,by omega,rfl,rfl,rfl,by omega,RdV.nil _ _,by simp,rfl,by decide,Below.refl _ _⟩
 case round=>
  obtain⟨o,p,A,m,c,hp,rfl,rfl,ho,hm,hr,hd,hv,hvP,hb⟩:=hrel
  have PN15:=Lh hp
  have OL:=Lh ho
  have M:=Lh hm
  have R:=Lh hr
  have D:=Lh hd
  have V:=Lh hv
  have VP:=Lh hvP
  have B:=Lh hb
  have pb:(p:Int)≤3100:=by have:=HM.out;omega
  clear hp ho hm hr hd hv hvP hb
  by_cases hlt:p<n
  ·have hD:decide ((p:Int)<(n:Int))=true:=by simp;omega
   have hD2:decide (p<n)=true:=by simp;omega
   have P1:=Lh hlt
   obtain⟨q,hq⟩:∃q,q=min (p+16) n:=⟨_,rfl⟩
   have e1:(if (n:Int)<(p:Int)+16 then(n:Int)else(p:Int)+16)=(q:Int):=by split<;>omega
   have Q:=Lh hq
   obtain⟨x,hx⟩:∃x,x=(l.drop p).take (q-p):=⟨_,rfl⟩
   have XL:=Lh (show x.length=q-p by rw [hx,kQp,kQv,HN.out];omega)
   have XE:=Lh (show x=(l.drop p).take 16 by
    rw[hx]
    rcases Nat.lt_or_ge (p+16) n with h|h
    ·rw [hq,Nat.min_eq_left (by omega),show p+16-p=16 by omega]
    ·rw [hq,Nat.min_eq_right (by omega),kQn (by rw [kQv,HN.out];omega),kQn (by rw [kQv,HN.out];omega)])
   have XS:=Lh hx.symm
   have SZ2:=SZ.out
   clear hq hx hlt
   go_upto_region 16 with fail
   go_wp2_with (refine qQa rfl (qWa 9 (.tmp 51) (.tmp 52) (.tmp 57) rfl Tryz.underlying9 l p q (by have:=Q.out;have:=P1.out;omega) (by rw [HN.out];have:=Q.out;omega) rfl .i64 .i64 _ _ rfl rfl rfl rfl _) ?_)
   rw[XS.out]
   clear SZ2 e1
   refine(of_any' x (q-p) XL.out (by have:=Q.out;omega) wr).mono ?_
   rintro e w6 ⟨v,rfl,ho,hb⟩
   obtain⟨A1,c1,rfl,hr1,_,_,_⟩:=ho.read
   have L1:=Lh (show(NumV (natL (x++[1]))).length=q-p+1 by rw [qQC,qXc,kQj,XL.out];rfl)
   rw[L1.out]
   have R1:=Lh hr1
   have RA:=Lh (R.out.keep hb)
   have B:=Lh (B.out.trans (hb.mono B.out.size))
   clear ho hr1 hb
   go_wp2_with fail
   refine(nsum_any o (natL (x++[1])) D.out (natL_le _) A m c OL.out A1 (q-p+1) c1 (by have:=L1.out;rwa [qQC]at this) (by have:=M.out;omega) (by have:=Q.out;omega) w6 RA.out R1.out).mono ?_
   rw[qKD]
   obtain⟨acc,hacc⟩:∃a,a=valB o:=⟨_,rfl⟩
   rw[←hacc]
   have AE:=Lh hacc
   have SM:=Lh (poly_small acc x half (by rw [hacc];exact VP.out) (by rw [XL.out];have:=Q.out;omega) (by rw [HL2.out];omega))
   clear hacc
   rintro e w7 ⟨v,o2,rfl,ho,hdg,hb⟩
   obtain⟨A2,c2,rfl,hr2,_,_,_⟩:=ho.read
   rw[qQC]
   have R2:=Lh hr2
   have D2:=Lh hdg
   have L2:=Lh (show o2.length≤37 by
    have h17:acc+qZv (x++[1])<256 ^ 37:=by
     have h1:acc<PN:=by rw [AE.out];exact VP.out
     have h2:=qW5 (x++[1])
     rw[kQj,XL.out,List.length_singleton]at h2
     have h3:(256:Nat) ^ (q-p+1)≤256 ^ 17:=Nat.pow_le_pow_right (by omega) (by have:=Q.out;omega)
     have h4:PN+256 ^ 17<256 ^ 37:=by decide +kernel
     omega
    have:=hdg.few h17
    have:=M.out
    have:=Q.out
    omega)
   have RH:=Lh ((R7.out.keep B.out).keep hb)
   have B:=Lh (B.out.trans (hb.mono B.out.size))
   clear ho hr2 hdg hb
   go_wp2_with fail
   refine(ntim_any o2 (natL half) D2.out.d255 (natL_le _) A2 o2.length c2 rfl A7 16 c7 (by rw [qXc,HL2.out]) (by have:=L2.out;omega) (by omega) w7 R2.out RH.out).mono ?_
   rw[D2.out.val,qKD]
   rintro e w8 ⟨v,o3,rfl,ho,hdg,hb⟩
   obtain⟨A3,c3,rfl,hr3,_,_,_⟩:=ho.read
   rw[qQC]
   have R3:=Lh hr3
   have D3:=Lh hdg
   have L3:=Lh (show o3.length≤60 by have:=hdg.few SM.out;have:=L2.out;omega)
   have B:=Lh (B.out.trans (hb.mono B.out.size))
   clear ho hr3 hdg hb
   go_wp2_with fail
   refine(mod_any o3 D3.out.d255 (by rw [D3.out.val];exact SM.out) A3 o3.length c3 rfl L3.out w8 R3.out).mono ?_
   rw[D3.out.val,←R0.out]
   rintro e w9 ⟨A4,c4,m4,o4,rfl,hl4,hm4,hr4,hd4,hv4,hb⟩
   have L4:=Lh hl4
   have M4:=Lh hm4
   have R4:=Lh hr4
   have D4:=Lh hd4
   have V4:=Lh hv4
   have B:=Lh (B.out.trans (hb.mono B.out.size))
   have NX:=Lh (show qVV r0 0 l=qVV r0 (valB o4) (l.drop (p+16)) by
    rw[V.out,qYB r0 _ (l.drop p) (by intro h;have h2:=congrArg List.length h;rw [kQv,HN.out]at h2;simp at h2;have:=P1.out;omega),←XE.out,←AE.out,V4.out,List.drop_drop])
   clear hl4 hm4 hr4 hd4 hv4 hb hD hD2
   go_wp2_with fail
   go_roundw
   case rel=>exact⟨o4,p+16,A4,m4,c4,by have:=P1.out;omega,by go_num,rfl,L4.out,M4.out,R4.out,D4.out,NX.out,by rw [V4.out];exact Nat.mod_lt _ (by decide),B.out⟩
   case measure=>have:=HM.out;have:=PN15.out;simp [intOf];omega
  ·have hD:decide ((p:Int)<(n:Int))=false:=by simp;omega
   have hD2:decide (p<n)=false:=by simp;omega
   have VF:=Lh (show qVV r0 0 l=valB o by rw [V.out,kQt (by rw [HN.out];omega),polyA_nil])
   have SZ2:=SZ.out
   go_upto_region 17 with fail
   clear SZ2 hD hD2 hlt
   go_wp2_with fail
   refine(nsum_any o (natL s) D.out (natL_le _) A m c OL.out A8 16 c8 (by rw [qXc,SL.out]) (by have:=M.out;omega) (by omega) wr R.out (R8.out.keep B.out)).mono ?_
   rw[qKD,←VF.out]
   obtain⟨T,hT⟩:∃T,T=qVV r0 0 l+qZv s:=⟨_,rfl⟩
   rw[←hT]
   have PT:=Lh (show P=qWw T by rw [PA.out,hT,bytesN_tag])
   rintro e w6 ⟨v,o2,rfl,ho,hdg,hb⟩
   obtain⟨A2,c2,rfl,hr2,_,_,hbk2⟩:=ho.read
   have R2A:=Lh (show ∀a,A2=some a→a.block<w6.heap.size from fun a e=>(hbk2 a e).2)
   rw[qQC]
   obtain⟨m2,hm2⟩:∃m,m=o2.length:=⟨_,rfl⟩
   rw[←hm2]
   have M2:=Lh hm2.symm
   have R2:=Lh hr2
   have D2:=Lh hdg
   have B:=Lh (B.out.trans (hb.mono B.out.size))
   have S2:=Lh (S.out.keep B.out)
   clear ho hr2 hdg hb hT hm2
   go_upto_block 6 with fail
   rw[←Z.out]
   generalize hM:Array.size (World.heap w6)=MM
   generalize hw:World.alloc w6 _=w7
   have PL:=Lh (show P.length=16 by rw [PT.out,qW9])
   have W7:=Lh (show BW w 155 MM (qXF P 0) w7∧PtW w key half w7 by
    have eZ:qXF P 0=Z16:=by rw [qX3,PL.out];rfl
    rw[eZ]
    have h:=S2.out.keep (show Below w6.heap.size w6 w7 by rw [←hw];exact qWT _ _)
    exact⟨⟨by rw [←hw];exact qQk _ _ _ hM.symm,by rw [←hM];have:=S2.out.lt;omega,h.bk.bel⟩,h⟩)
   have GM:=Lh (show w.heap.size+1+1<MM by rw [←hM];exact S2.out.lt)
   have R2:=Lh (show RdV w7 A2 (NumV o2) by rw [←hw];exact R2.out.keep (qWT _ _))
   have A2B:=Lh (show ∀a,A2=some a→a.block<MM from fun a e=>by rw [←hM];exact(R2A.out a e))
   clear hM hw S2 S
   go_wp2_with fail
   go_loopw [13] (fun i wr=>∃j:Nat,j≤16∧i=.int .i64 (j:Int)∧BW w 155 MM (qXF P j) wr∧PtW w key half wr∧RdV wr A2 (NumV o2)) (fun i _=>16-(intOf i).toNat)
   case atStart=>exact⟨0,by omega,rfl,W7.out.1,W7.out.2,R2.out⟩
   case round=>
    obtain⟨j,hj,rfl,hb,hs,hr⟩:=hrel
    have J:=Lh hj
    have BM:=Lh hb
    have S:=Lh hs
    have R2:=Lh hr
    clear hj hb hs hr
    by_cases hlt:j<16
    ·have hD:decide ((j:Int)<16)=true:=by simp;omega
     have J16:=Lh hlt
     have jb:(j:Int)<16:=by omega
     obtain⟨d,hd⟩:∃d,d=o2.getD j 0:=⟨_,rfl⟩
     have DA:=Lh (qZT o2 A2 m2 c2 M2.out j wr R2.out)
     rw[←hd]at DA
     obtain⟨y,hy⟩:∃y,y=P.getD j 0:=⟨_,rfl⟩
     have YE:=Lh hy
     have YD:=Lh (show(d:Int) % 256=(y.toNat:Int) by
      have h1:=valB_digit o2 D2.out.d255 j
      rw[D2.out.val,←hd]at h1
      rw[hy,PT.out,qYS _ _ hlt]
      simp only [UInt8.toNat_ofNat',Nat.reducePow]
      omega)
     have db:(d:Int)≤255:=by have:=qZL D2.out.d255 j;omega
     have a2:=qQg BM.out.b j (qZ4 _ j (by rw [qZV,PL.out];exact hlt))
     have f2:=qQz BM.out.b j
     clear hd hy hlt
     go_wp2_with fail
     refine DA.out.mono ?_
     rintro e w8 ⟨rfl,hw⟩
     rw[hw]
     clear hw w8
     have eY:=YD.out
     have eW:IntKind.u8.wrap (d:Int)=(y.toNat:Int):=by rw [IntKind.wrap_u8];exact eY
     clear db
     go_upto_region 21 with fail
     obtain⟨w8,hw8⟩:∃w8,w8=wr.setCell ⟨MM,j,none⟩ (.int .u8 (y.toNat:Int)):=⟨_,rfl⟩
     rw[←hw8]
     have S3:=Lh (show BW w 155 MM (qXF P (j+1)) w8∧PtW w key half w8∧RdV w8 A2 (NumV o2) by
      have hg:wr.grownBy w8 (some MM):=by rw [hw8];exact qJH _ _ _ _
      refine⟨?_,S.out.own hg (by rintro g ⟨⟩;exact GM.out),R2.out.grown hg (fun g e a ea=>?_)⟩
      ·rw [hw8,←qWN _ _ (by rw [PL.out];exact J16.out),←YE.out]
       exact BM.out.set _ _
      ·cases e
       have:=A2B.out a ea
       omega)
     clear hw8 a2 f2 hD eY eW
     go_wp2_with fail
     go_roundw
     case rel=>exact⟨j+1,by have:=J16.out;omega,by go_num,S3.out.1,S3.out.2.1,S3.out.2.2⟩
     case measure=>have:=J16.out;simp [intOf];omega
    ·have hD:decide ((j:Int)<16)=false:=by simp;omega
     have J16:=Lh (show j=16 by have:=J.out;omega)
     have BF:=Lh (show wr.heap[MM]?=some (.cells (W8 P) 155 (0,0)) by
      have h:=BM.out.b
      rw[J16.out,←PL.out,qX4]at h
      exact h)
     clear hlt
     go_wp2_with (first
      | (refine wpList_load_row rfl 155 (.tmp 12) rfl MM rfl 155 (W8 P) (0,0) _ BF.out Tryz.underlying155 rfl (qZK PL.out) ?_)
      | (refine qQf rfl rfl 155 (.tmp 4) (.tmp 77) rfl (w.heap.size+1) (W8 P) rfl rfl 155 _ S.out.bo.b (qZK PL.out) (by rw [qQw,qQw,PL.out];rfl) (qZg _) ?_;intro w8 hz8 hg8 _))
     exact bodyPost_ret (results_cell_row rfl _ _ (w.heap.size+1) 155 (W8 P) (0,0) _ rfl hz8 Tryz.underlying155 rfl (qZK PL.out)) rfl ⟨rfl,S.out.bo.ret hg8⟩
end Go.Proofs.YtlocplkjokoknaaGreat
namespace Go.Proofs.YtlocplkjokoknaaGreat
open Go.RowKit
theorem qVF (x:UInt32) (r:Nat) (w:World) (hr:r<32) (h0:0<r) :
  Calls Tryz.prog 129 #[.int .u32 (x.toNat:Int),.int .u64 (r:Int)] w fun e w'=>e=.returned (.int .u32 ((rotl x r).toNat:Int))∧w'=w:=by
 have hc:=rot_core x r hr h0
 have e1:(r:Int)≤32:=by omega
 have e2:(0:Int)≤32-(r:Int):=by omega
 have e3:(32-(r:Int))≤32:=by omega
 have e4:(32-(r:Int)).toNat=32-r:=by omega
 have e5:(32-(r:Int)) % 18446744073709551616=32-(r:Int):=by omega
 go_enter Tryz.func129,Tryz.ntmps129
 go_wp2_with fail
 go_ret
 exact⟨rfl,rfl⟩
def StR (w:World) (g:Nat) (l:List UInt32) (W:World):Prop:=W.heap[g]?=some (.cells (W32 l) 209 (0,0))∧w.grownBy W (some g)
theorem StR.cell {w W:World} {g:Nat} {l:List UInt32} (h:StR w g l W) (i:Nat) (hi:i<l.length):W.cell? ⟨g,i,none⟩=some (.int .u32 ((l.getD i 0).toNat:Int)):=qQg h.1 i (qQZ l i hi)
theorem StR.pick {w W:World} {g:Nat} {l:List UInt32} (h:StR w g l W) (i:Nat) (hi:i<l.length):∃x:UInt32,Hid (x=l.getD i 0)∧W.cell? ⟨g,i,none⟩=some (.int .u32 (x.toNat:Int)):=⟨_,rfl,h.cell i hi⟩
theorem StR.free {w W:World} {g:Nat} {l:List UInt32} (h:StR w g l W) (i:Nat):W.frozen? ⟨g,i,none⟩=false:=qQz h.1 i
theorem StR.set {w W:World} {g:Nat} {l:List UInt32} (h:StR w g l W) (i:Nat) (x:UInt32) (v:Int) (hv:v=(x.toNat:Int)):StR w g (l.set i x) (W.setCell ⟨g,i,none⟩ (.int .u32 v)):=by
 subst hv
 exact⟨by rw [heap_setCell_same _ _ _ _ _ _ h.1,qVD],qQF h.2 _ _⟩
theorem StR.drew {w W:World} {g:Nat} {l:List UInt32} (h:StR w g l W):StR w g l W.drew:=⟨h.1,qZS h.2⟩
theorem StR.refl {w:World} {g:Nat} {l:List UInt32} (h:w.heap[g]?=some (.cells (W32 l) 209 (0,0))):StR w g l w:=⟨h,World.grownBy.refl _ _⟩
def zero16w:List UInt32:=[0,0,0,0,0,0,0,0,0,0,0,0,0,0,0,0]
theorem qZy (l:List UInt32) (hl:l.length=16) (w:World) (a b c d:Nat) (ha:(a:Int)<16) (hb:(b:Int)<16) (hc:(c:Int)<16) (hd:(d:Int)<16) :
  Calls Tryz.prog 112 #[.agg (W32 l),.int .i64 (a:Int),.int .i64 (b:Int),.int .i64 (c:Int),.int .i64 (d:Int)] w fun e w'=>
   e=.returned (.agg (W32 (qZa l a b c d)))∧Below w.heap.size w w':=by
 have N0:=Lh hl
 have LQ:=Lh (show(qZa l a b c d).length=16 by rw [qQ6];exact hl)
 go_enter Tryz.func112,Tryz.ntmps112
 go_upto_region 1 with fail
 obtain⟨g,hg⟩:∃g,g=w.heap.size:=⟨_,rfl⟩
 refine qZ1 (fun W=>W.heap[g]?=some (.cells (W32 l) 209 (0,0))∧W.heap[g+1]?=some (.cells (W32 zero16w) 209 (0,0))∧Below w.heap.size w W) ⟨qQM _ _ _ (by simp;omega) (qQk _ _ _ hg),qQk _ _ _ (by simp;omega),((Below.refl _ _).alloc (kQh _) _).alloc (by simp) _⟩ ?_
 rw[←hg]
 have HG:=Lh hg
 clear hg hl
 rintro w0 ⟨hs,hz,hb0⟩
 have Z0:=Lh hz
 have B0:=Lh hb0
 have H0:=Lh (StR.refl hs)
 clear hs hz hb0
 obtain⟨l0,hl0⟩:∃l0,l0=l:=⟨_,rfl⟩
 have HL0:=Lh hl0
 rw[←hl0]at N0 H0
 obtain⟨wr0,hw0⟩:∃wr0,wr0=w0:=⟨_,rfl⟩
 rw[←hw0]at H0 ⊢
 replace H0:Hid (StR w0 g l0 wr0):=Lh (by rw [hw0];exact StR.refl (by rw [←hw0];exact H0.out.1))
 clear hw0 hl0
 obtain⟨x0,hx,a1⟩:=H0.out.pick a (by have:=N0.out;omega)
 obtain⟨y0,hy,a2⟩:=H0.out.pick b (by have:=N0.out;omega)
 have a3:=H0.out.free a
 go_region
 go_wp2_with fail
 clear a1 a2 a3
 refine qZ1 (fun W=>StR w0 g (l0.set a (l0.getD a 0+l0.getD b 0)) W) ((H0.out.set a _ _ (by rw [←hx.out,←hy.out];exact qZY _ _)).drew) ?_
 clear hx hy
 generalize hl1:l0.set a (l0.getD a 0+l0.getD b 0)=l1
 have HL1:=Lh hl1
 have N1:=Lh (show l1.length=16 by rw [←hl1];simpa using N0.out)
 clear hl1 H0 wr0
 rintro wr1 H1'
 have H1:=Lh H1'
 clear H1' 
 obtain⟨x1,hx,a1⟩:=H1.out.pick d (by have:=N1.out;omega)
 obtain⟨y1,hy,a2⟩:=H1.out.pick a (by have:=N1.out;omega)
 have a3:=H1.out.free d
 obtain⟨z1,hz,X⟩:=qX2 x1 y1
 go_still_tail 10,(by kernel_rfl)
 still_call (qVF _ 16 _ (by omega) (by omega))
 repeat still_step
 refine wpStill_nil ?_
 change wpList _ _ _ _ _ wr1.drew
 go_wp2_with fail
 clear a1 a2 a3 X
 refine qZ1 (fun W=>StR w0 g (l1.set d (rotl (l1.getD d 0 ^^^ l1.getD a 0) 16)) W) (by rw [←hx.out,←hy.out,←hz.out];exact(H1.out.set d _ _ rfl).drew) ?_
 clear hx hy hz
 generalize hl2:l1.set d (rotl (l1.getD d 0 ^^^ l1.getD a 0) 16)=l2
 have HL2:=Lh hl2
 have N2:=Lh (show l2.length=16 by rw [←hl2];simpa using N1.out)
 clear hl2 H1 wr1
 rintro wr2 H2'
 have H2:=Lh H2'
 clear H2' 
 obtain⟨x2,hx,a1⟩:=H2.out.pick c (by have:=N2.out;omega)
 obtain⟨y2,hy,a2⟩:=H2.out.pick d (by have:=N2.out;omega)
 have a3:=H2.out.free c
 go_region
 go_wp2_with fail
 clear a1 a2 a3
 refine qZ1 (fun W=>StR w0 g (l2.set c (l2.getD c 0+l2.getD d 0)) W) ((H2.out.set c _ _ (by rw [←hx.out,←hy.out];exact qZY _ _)).drew) ?_
 clear hx hy
 generalize hl3:l2.set c (l2.getD c 0+l2.getD d 0)=l3
 have HL3:=Lh hl3
 have N3:=Lh (show l3.length=16 by rw [←hl3];simpa using N2.out)
 clear hl3 H2 wr2
 rintro wr3 H3'
 have H3:=Lh H3'
 clear H3' 
 obtain⟨x3,hx,a1⟩:=H3.out.pick b (by have:=N3.out;omega)
 obtain⟨y3,hy,a2⟩:=H3.out.pick c (by have:=N3.out;omega)
 have a3:=H3.out.free b
 obtain⟨z3,hz,X⟩:=qX2 x3 y3
 go_still_tail 10,(by kernel_rfl)
 still_call (qVF _ 12 _ (by omega) (by omega))
 repeat still_step
 refine wpStill_nil ?_
 change wpList _ _ _ _ _ wr3.drew
 go_wp2_with fail
 clear a1 a2 a3 X
 refine qZ1 (fun W=>StR w0 g (l3.set b (rotl (l3.getD b 0 ^^^ l3.getD c 0) 12)) W) (by rw [←hx.out,←hy.out,←hz.out];exact(H3.out.set b _ _ rfl).drew) ?_
 clear hx hy hz
 generalize hl4:l3.set b (rotl (l3.getD b 0 ^^^ l3.getD c 0) 12)=l4
 have HL4:=Lh hl4
 have N4:=Lh (show l4.length=16 by rw [←hl4];simpa using N3.out)
 clear hl4 H3 wr3
 rintro wr4 H4'
 have H4:=Lh H4'
 clear H4' 
 obtain⟨x4,hx,a1⟩:=H4.out.pick a (by have:=N4.out;omega)
 obtain⟨y4,hy,a2⟩:=H4.out.pick b (by have:=N4.out;omega)
 have a3:=H4.out.free a
 go_region
 go_wp2_with fail
 clear a1 a2 a3
 refine qZ1 (fun W=>StR w0 g (l4.set a (l4.getD a 0+l4.getD b 0)) W) ((H4.out.set a _ _ (by rw [←hx.out,←hy.out];exact qZY _ _)).drew) ?_
 clear hx hy
 generalize hl5:l4.set a (l4.getD a 0+l4.getD b 0)=l5
 have HL5:=Lh hl5
 have N5:=Lh (show l5.length=16 by rw [←hl5];simpa using N4.out)
 clear hl5 H4 wr4
 rintro wr5 H5'
 have H5:=Lh H5'
 clear H5' 
 obtain⟨x5,hx,a1⟩:=H5.out.pick d (by have:=N5.out;omega)
 obtain⟨y5,hy,a2⟩:=H5.out.pick a (by have:=N5.out;omega)
 have a3:=H5.out.free d
 obtain⟨z5,hz,X⟩:=qX2 x5 y5
 go_still_tail 10,(by kernel_rfl)
 still_call (qVF _ 8 _ (by omega) (by omega))
 repeat still_step
 refine wpStill_nil ?_
 change wpList _ _ _ _ _ wr5.drew
 go_wp2_with fail
 clear a1 a2 a3 X
 refine qZ1 (fun W=>StR w0 g (l5.set d (rotl (l5.getD d 0 ^^^ l5.getD a 0) 8)) W) (by rw [←hx.out,←hy.out,←hz.out];exact(H5.out.set d _ _ rfl).drew) ?_
 clear hx hy hz
 generalize hl6:l5.set d (rotl (l5.getD d 0 ^^^ l5.getD a 0) 8)=l6
 have HL6:=Lh hl6
 have N6:=Lh (show l6.length=16 by rw [←hl6];simpa using N5.out)
 clear hl6 H5 wr5
 rintro wr6 H6'
 have H6:=Lh H6'
 clear H6' 
 obtain⟨x6,hx,a1⟩:=H6.out.pick c (by have:=N6.out;omega)
 obtain⟨y6,hy,a2⟩:=H6.out.pick d (by have:=N6.out;omega)
 have a3:=H6.out.free c
 go_region
 go_wp2_with fail
 clear a1 a2 a3
 refine qZ1 (fun W=>StR w0 g (l6.set c (l6.getD c 0+l6.getD d 0)) W) ((H6.out.set c _ _ (by rw [←hx.out,←hy.out];exact qZY _ _)).drew) ?_
 clear hx hy
 generalize hl7:l6.set c (l6.getD c 0+l6.getD d 0)=l7
 have HL7:=Lh hl7
 have N7:=Lh (show l7.length=16 by rw [←hl7];simpa using N6.out)
 clear hl7 H6 wr6
 rintro wr7 H7'
 have H7:=Lh H7'
 clear H7' 
 obtain⟨x7,hx,a1⟩:=H7.out.pick b (by have:=N7.out;omega)
 obtain⟨y7,hy,a2⟩:=H7.out.pick c (by have:=N7.out;omega)
 have a3:=H7.out.free b
 obtain⟨z7,hz,X⟩:=qX2 x7 y7
 go_still_tail 10,(by kernel_rfl)
 still_call (qVF _ 7 _ (by omega) (by omega))
 repeat still_step
 refine wpStill_nil ?_
 change wpList _ _ _ _ _ wr7.drew
 go_upto_region 9 with fail
 clear a1 a2 a3 X
 refine qZ1 (fun W=>StR w0 g (l7.set b (rotl (l7.getD b 0 ^^^ l7.getD c 0) 7)) W) (by rw [←hx.out,←hy.out,←hz.out];exact(H7.out.set b _ _ rfl).drew) ?_
 clear hx hy hz
 generalize hl8:l7.set b (rotl (l7.getD b 0 ^^^ l7.getD c 0) 7)=l8
 have HL8:=Lh hl8
 have N8:=Lh (show l8.length=16 by rw [←hl8];simpa using N7.out)
 clear hl8 H7 wr7
 rintro wr8 H8'
 have H8:=Lh H8'
 clear H8' 
 have E:l8=qZa l a b c d:=by
  rw[←HL8.out,←HL7.out,←HL6.out,←HL5.out,←HL4.out,←HL3.out,←HL2.out,←HL1.out,HL0.out];rfl
 have HE:=Lh E
 have ZQ:=Lh (show(Tryz.prog.info? 209).map (·.size)=some (W32 l8).size by rw [qQA,N8.out];kernel_rfl)
 clear E HL1 HL2 HL3 HL4 HL5 HL6 HL7 HL8 HL0
 have R8:=Lh (qQd H8.out.2 (by simp) Z0.out)
 go_wp2_with (first
  | (refine wpList_load_row rfl 209 (.tmp 5) rfl g rfl 209 (W32 l8) (0,0) _ H8.out.1 Tryz.underlying209 rfl ZQ.out ?_)
  | (refine qQf rfl rfl 209 (.tmp 10) (.tmp 87) rfl (g+1) (W32 l8) rfl rfl 209 (W32 zero16w) R8.out ZQ.out (by rw [qQA,qQA,N8.out];rfl) (qZt _) ?_;intro w9 hg9 hgr9 hs9))
 have G9:=Lh hg9
 have B9:=Lh ((B0.out.trans (qQi H8.out.2 (by rw [HG.out];exact B0.out.size) (fun k e=>by simp at e;have:=HG.out;omega))).trans (qQi hgr9 (by have:=qQe H8.out.1;have:=HG.out;omega) (fun k e=>by simp at e;have:=HG.out;omega)))
 clear hg9 hgr9 hs9 H8 R8 B0 Z0
 go_wp2_with fail
 refine bodyPost_ret (results_cell_row rfl _ _ (g+1) 209 (W32 l8) (0,0) _ rfl G9.out Tryz.underlying209 rfl ZQ.out) rfl ?_
 rw[←HE.out]
 exact⟨rfl,by rw [←HG.out];exact B9.out⟩
end Go.Proofs.YtlocplkjokoknaaGreat
namespace Go.Proofs.YtlocplkjokoknaaGreat
open Go.RowKit
attribute [local go_sem ↓] Go.wp_at_zero Go.wp_at_succ
def wordL (b:List UInt8) (i:Nat):UInt32:=(b.getD (4*i) 0).toUInt32+(b.getD (4*i+1) 0).toUInt32 <<< 8+(b.getD (4*i+2) 0).toUInt32 <<< 16+(b.getD (4*i+3) 0).toUInt32 <<< 24
theorem word_val (x0 x1 x2 x3:UInt8):IntKind.u32.wrap (IntKind.u32.wrap (IntKind.u32.wrap (IntKind.u32.wrap (x0.toNat:Int)+IntKind.u32.wrap (IntKind.u32.wrap (x1.toNat:Int)*256))+IntKind.u32.wrap (IntKind.u32.wrap (x2.toNat:Int)*65536))+IntKind.u32.wrap (IntKind.u32.wrap (x3.toNat:Int)*16777216))=((x0.toUInt32+x1.toUInt32 <<< 8+x2.toUInt32 <<< 16+x3.toUInt32 <<< 24).toNat:Int):=by
 have h0:=x0.toNat_lt
 have h1:=x1.toNat_lt
 have h2:=x2.toNat_lt
 have h3:=x3.toNat_lt
 simp only [IntKind.wrap_u32,UInt32.toNat_add,UInt32.toNat_shiftLeft,UInt8.toNat_toUInt32,Nat.shiftLeft_eq]
 have e1:(8:UInt32).toNat % 32=8:=rfl
 have e2:(16:UInt32).toNat % 32=16:=rfl
 have e3:(24:UInt32).toNat % 32=24:=rfl
 rw[e1,e2,e3]
 omega
theorem word_any (b:List UInt8) (i:Nat) (w:World) (h:4*i+3<b.length) (hi:i≤1000) :
  Calls Tryz.prog 111 #[.string (strB b),.int .i64 (i:Int)] w fun e w'=>e=.returned (.int .u32 ((wordL b i).toNat:Int))∧w'=w.drew:=by
 have H:=Lh h
 have e0:Hid (IntKind.i64.wrap (4*(i:Int))=((4*i:Nat):Int)):=by show _=_;rw [IntKind.wrap_i64];omega
 have e1:Hid (IntKind.i64.wrap (IntKind.i64.wrap (4*(i:Int))+1)=((4*i+1:Nat):Int)):=by show _=_;rw [e0.out,IntKind.wrap_i64];omega
 have e2:Hid (IntKind.i64.wrap (IntKind.i64.wrap (4*(i:Int))+2)=((4*i+2:Nat):Int)):=by show _=_;rw [e0.out,IntKind.wrap_i64];omega
 have e3:Hid (IntKind.i64.wrap (IntKind.i64.wrap (4*(i:Int))+3)=((4*i+3:Nat):Int)):=by show _=_;rw [e0.out,IntKind.wrap_i64];omega
 obtain⟨x0,h0⟩:∃x,x=b.getD (4*i) 0:=⟨_,rfl⟩
 obtain⟨x1,h1⟩:∃x,x=b.getD (4*i+1) 0:=⟨_,rfl⟩
 obtain⟨x2,h2⟩:∃x,x=b.getD (4*i+2) 0:=⟨_,rfl⟩
 obtain⟨x3,h3⟩:∃x,x=b.getD (4*i+3) 0:=⟨_,rfl⟩
 have X:Hid (wordL b i=x0.toUInt32+x1.toUInt32 <<< 8+x2.toUInt32 <<< 16+x3.toUInt32 <<< 24):=by show _=_;rw [h0,h1,h2,h3];rfl
 have H0:=Lh h0
 have H1:=Lh h1
 have H2:=Lh h2
 have H3:=Lh h3
 clear h h0 h1 h2 h3
 go_enter Tryz.func111,Tryz.ntmps111
 go_upto_region 1 with fail
 refine qZl (fun W=>W=w.drew) [0,1,2,3,4,5,6,7,8,9,10,11,12,13,14,15,16,17,18,19,20,21,22,23,24,25,26,27,28] [29] (by kernel_rfl) (by kernel_rfl) (fun _ _ d _ _ h=>by cases d<;>exact h) (rfl) ?_
 simp only [kQl,kQm,kQd,kQg,kQe]
 refine qQm (by rfl) (fun W hW=>by go_simp;rfl) ?_
 simp only [Act.put,pq1,pq2,pq3]
 refine qQm (by rfl) (fun W hW=>by go_simp;rfl) ?_
 simp only [Act.put,pq1,pq2,pq3]
 refine qQm (by rfl) (fun W hW=>by go_simp;rfl) ?_
 simp only [Act.put,pq1,pq2,pq3]
 refine qQm (by rfl) (fun W hW=>qQV 9 (.tmp 5) (.tmp 7) rfl Tryz.underlying9 b (4*i) x0 H0.out (by have:=H.out;omega) .i64 _ e0.out rfl rfl W) ?_
 simp only [Act.put,pq1,pq2,pq3]
 refine qQm (by rfl) (fun W hW=>by go_simp;rfl) ?_
 simp only [Act.put,pq1,pq2,pq3]
 refine qQm (by rfl) (fun W hW=>by go_simp;rfl) ?_
 simp only [Act.put,pq1,pq2,pq3]
 refine qQm (by rfl) (fun W hW=>by go_simp;rfl) ?_
 simp only [Act.put,pq1,pq2,pq3]
 refine qQm (by rfl) (fun W hW=>by go_simp;rfl) ?_
 simp only [Act.put,pq1,pq2,pq3]
 refine qQm (by rfl) (fun W hW=>by go_simp;rfl) ?_
 simp only [Act.put,pq1,pq2,pq3]
 refine qQm (by rfl) (fun W hW=>qQV 9 (.tmp 10) (.tmp 13) rfl Tryz.underlying9 b (4*i+1) x1 H1.out (by have:=H.out;omega) .i64 _ e1.out rfl rfl W) ?_
 simp only [Act.put,pq1,pq2,pq3]
 refine qQm (by rfl) (fun W hW=>by go_simp;rfl) ?_
 simp only [Act.put,pq1,pq2,pq3]
 refine qQm (by rfl) (fun W hW=>by go_simp;rfl) ?_
 simp only [Act.put,pq1,pq2,pq3]
 refine qQm (by rfl) (fun W hW=>by go_simp;rfl) ?_
 simp only [Act.put,pq1,pq2,pq3]
 refine qQm (by rfl) (fun W hW=>by go_simp;rfl) ?_
 simp only [Act.put,pq1,pq2,pq3]
 refine qQm (by rfl) (fun W hW=>by go_simp;rfl) ?_
 simp only [Act.put,pq1,pq2,pq3]
 refine qQm (by rfl) (fun W hW=>by go_simp;rfl) ?_
 simp only [Act.put,pq1,pq2,pq3]
 refine qQm (by rfl) (fun W hW=>by go_simp;rfl) ?_
 simp only [Act.put,pq1,pq2,pq3]
 refine qQm (by rfl) (fun W hW=>qQV 9 (.tmp 18) (.tmp 21) rfl Tryz.underlying9 b (4*i+2) x2 H2.out (by have:=H.out;omega) .i64 _ e2.out rfl rfl W) ?_
 simp only [Act.put,pq1,pq2,pq3]
 refine qQm (by rfl) (fun W hW=>by go_simp;rfl) ?_
 simp only [Act.put,pq1,pq2,pq3]
 refine qQm (by rfl) (fun W hW=>by go_simp;rfl) ?_
 simp only [Act.put,pq1,pq2,pq3]
 refine qQm (by rfl) (fun W hW=>by go_simp;rfl) ?_
 simp only [Act.put,pq1,pq2,pq3]
 refine qQm (by rfl) (fun W hW=>by go_simp;rfl) ?_
 simp only [Act.put,pq1,pq2,pq3]
 refine qQm (by rfl) (fun W hW=>by go_simp;rfl) ?_
 simp only [Act.put,pq1,pq2,pq3]
 refine qQm (by rfl) (fun W hW=>by go_simp;rfl) ?_
 simp only [Act.put,pq1,pq2,pq3]
 refine qQm (by rfl) (fun W hW=>by go_simp;rfl) ?_
 simp only [Act.put,pq1,pq2,pq3]
 refine qQm (by rfl) (fun W hW=>qQV 9 (.tmp 26) (.tmp 29) rfl Tryz.underlying9 b (4*i+3) x3 H3.out (by have:=H.out;omega) .i64 _ e3.out rfl rfl W) ?_
 simp only [Act.put,pq1,pq2,pq3]
 refine qQm (by rfl) (fun W hW=>by go_simp;rfl) ?_
 simp only [Act.put,pq1,pq2,pq3]
 refine qQm (by rfl) (fun W hW=>by go_simp;rfl) ?_
 simp only [Act.put,pq1,pq2,pq3]
 refine qQm (by rfl) (fun W hW=>by go_simp;rfl) ?_
 simp only [Act.put,pq1,pq2,pq3]
 refine qXE ?_
 refine qXi (by rfl) (fun K hK=>?_)
 go_simp
 refine hK.out _ _ (rfl) ?_
 clear hK K
 refine qXD ?_
 go_wp2_with fail
 go_ret
 rw[X.out]
 exact⟨congrArg (fun z=>Ending.returned (.int .u32 z)) (word_val x0 x1 x2 x3),rfl⟩
end Go.Proofs.YtlocplkjokoknaaGreat
namespace Go.Proofs.YtlocplkjokoknaaGreat
open Go.RowKit
def qWk (l:List UInt32) (p:Nat) (b:List UInt8):Nat→List UInt32
 | 0=>l
 | i+1=>(qWk l p b i).set (p+i) (wordL b i)
theorem qXv (l:List UInt32) (p:Nat) (b:List UInt8) (i:Nat):(qWk l p b i).length=l.length:=by
 induction i with
 | zero=>rfl
 | succ i ih=>simp [qWk,ih]
def refInit (k n:List UInt8) (count:UInt32):List UInt32:=qWk ((qWk headL 4 k 8).set 12 count) 13 n 3
theorem or4 (a b c d:UInt8):((((0:UInt32) ||| a.toUInt32 <<< 0) ||| b.toUInt32 <<< 8) ||| c.toUInt32 <<< 16) ||| d.toUInt32 <<< 24=a.toUInt32+b.toUInt32 <<< 8+c.toUInt32 <<< 16+d.toUInt32 <<< 24:=by
 have h0:=a.toNat_lt
 have h1:=b.toNat_lt
 have h2:=c.toNat_lt
 have h3:=d.toNat_lt
 apply UInt32.toNat_inj.1
 simp only [UInt32.toNat_or,UInt32.toNat_add,UInt32.toNat_shiftLeft,UInt8.toNat_toUInt32]
 have e0:(0:UInt32).toNat=0:=rfl
 have e1:(8:UInt32).toNat % 32=8:=rfl
 have e2:(16:UInt32).toNat % 32=16:=rfl
 have e3:(24:UInt32).toNat % 32=24:=rfl
 rw[e0,e1,e2,e3]
 generalize a.toNat=a at *
 generalize b.toNat=b at *
 generalize c.toNat=c at *
 generalize d.toNat=d at *
 have m1:b <<< 8 % 2 ^ 32=b <<< 8:=Nat.mod_eq_of_lt (by rw [Nat.shiftLeft_eq];omega)
 have m2:c <<< 16 % 2 ^ 32=c <<< 16:=Nat.mod_eq_of_lt (by rw [Nat.shiftLeft_eq];omega)
 have m3:d <<< 24 % 2 ^ 32=d <<< 24:=Nat.mod_eq_of_lt (by rw [Nat.shiftLeft_eq];omega)
 have m0:a <<< (0 % 32) % 2 ^ 32=a:=by simp;omega
 rw[m0,m1,m2,m3,Nat.zero_or]
 have s1:a ||| b <<< 8=b*256+a:=by rw [Nat.or_comm,←Nat.shiftLeft_add_eq_or_of_lt h0,Nat.shiftLeft_eq]
 have s2:b*256+a ||| c <<< 16=c*65536+(b*256+a):=by rw [Nat.or_comm,←Nat.shiftLeft_add_eq_or_of_lt (by omega),Nat.shiftLeft_eq]
 have s3:c*65536+(b*256+a) ||| d <<< 24=d*16777216+(c*65536+(b*256+a)):=by rw [Nat.or_comm,←Nat.shiftLeft_add_eq_or_of_lt (by omega),Nat.shiftLeft_eq]
 rw[s1,s2,s3]
 simp only [Nat.shiftLeft_eq]
 omega
theorem set4 (L:List UInt32) (q:Nat) (x0 x1 x2 x3:UInt32) (hq:q<L.length) (h0:L.getD q 0=0) :
  ((((L.set q (L.getD q 0 ||| x0)).set q ((L.set q (L.getD q 0 ||| x0)).getD q 0 ||| x1)).set q (((L.set q (L.getD q 0 ||| x0)).set q ((L.set q (L.getD q 0 ||| x0)).getD q 0 ||| x1)).getD q 0 ||| x2)).set q
   ((((L.set q (L.getD q 0 ||| x0)).set q ((L.set q (L.getD q 0 ||| x0)).getD q 0 ||| x1)).set q (((L.set q (L.getD q 0 ||| x0)).set q ((L.set q (L.getD q 0 ||| x0)).getD q 0 ||| x1)).getD q 0 ||| x2)).getD q 0 ||| x3))
   = L.set q ((((0 ||| x0) ||| x1) ||| x2) ||| x3):=by
 have g:∀(M:List UInt32) (v:UInt32),q<M.length→(M.set q v).getD q 0=v:=fun M v h=>by simp [kQa,h]
 simp only [List.set_set,h0]
 rw[g L _ hq,g L _ hq,g L _ hq]
def oneL (p:Nat) (b:List UInt8) (M:List UInt32) (k:Nat):List UInt32:=M.set (p+k/4) (M.getD (p+k/4) 0 ||| (b.getD k 0).toUInt32 <<< (UInt32.ofNat (8*(k % 4))))
theorem oneL_four (p:Nat) (b:List UInt8) (M:List UInt32) (i:Nat) (hq:p+i<M.length) (h0:M.getD (p+i) 0=0):oneL p b (oneL p b (oneL p b (oneL p b M (4*i)) (4*i+1)) (4*i+2)) (4*i+3)=M.set (p+i) (wordL b i):=by
 unfold oneL
 rw[show(4*i+3)/4=i by omega,show(4*i+2)/4=i by omega,show(4*i+1)/4=i by omega,show(4*i)/4=i by omega,
  show(4*i+3) % 4=3 by omega,show(4*i+2) % 4=2 by omega,show(4*i+1) % 4=1 by omega,show(4*i) % 4=0 by omega]
 have o0:UInt32.ofNat (8*0)=0:=rfl
 have o1:UInt32.ofNat (8*1)=8:=rfl
 have o2:UInt32.ofNat (8*2)=16:=rfl
 have o3:UInt32.ofNat (8*3)=24:=rfl
 rw[o0,o1,o2,o3]
 obtain⟨x0,h0'⟩:∃x,x=b.getD (4*i) 0:=⟨_,rfl⟩
 obtain⟨x1,h1'⟩:∃x,x=b.getD (4*i+1) 0:=⟨_,rfl⟩
 obtain⟨x2,h2'⟩:∃x,x=b.getD (4*i+2) 0:=⟨_,rfl⟩
 obtain⟨x3,h3'⟩:∃x,x=b.getD (4*i+3) 0:=⟨_,rfl⟩
 rw[wordL,←h0',←h1',←h2',←h3',←or4 x0 x1 x2 x3]
 exact set4 M (p+i) _ _ _ _ hq h0
theorem qYI (l:List UInt32) (p:Nat) (b:List UInt8) (i:Nat) (hp:p+i≤l.length) (hz:∀j,j<i→l.getD (p+j) 0=0):qKp l p b (4*i)=qWk l p b i∧∀j,i≤j→(qWk l p b i).getD (p+j) 0=l.getD (p+j) 0:=by
 induction i with
 | zero=>exact⟨rfl,fun j _=>rfl⟩
 | succ i ih=>
  obtain⟨ih1,ih2⟩:=ih (by omega) (fun j hj=>hz j (by omega))
  refine⟨?_,fun j hj=>?_⟩
  ·have e:qKp l p b (4*(i+1))=oneL p b (oneL p b (oneL p b (oneL p b (qKp l p b (4*i)) (4*i)) (4*i+1)) (4*i+2)) (4*i+3):=rfl
   rw[e,ih1,oneL_four _ _ _ _ (by rw [qXv];omega) (by rw [ih2 i (kQh _)];exact hz i (by omega)),qWk]
  ·rw [qWk,←ih2 j (by omega)]
   simp only [kQa]
   rw[List.getElem?_set_ne (by omega)]
theorem qYQ (j:Nat) (h4:4≤j):headL.getD j 0=0:=by
 by_cases h:j<16
 ·have:∀j,j<16→4≤j→headL.getD j 0=0:=by decide
  exact this j h h4
 ·simp [kQa,headL]
  rw[List.getElem?_eq_none (by simp;omega)]
  rfl
theorem wordK_set (l:List UInt32) (p:Nat) (b:List UInt8) (i q:Nat) (x:UInt32) (hq:q<p):qWk (l.set q x) p b i=(qWk l p b i).set q x:=by
 induction i with
 | zero=>rfl
 | succ i ih=>rw [qWk,qWk,ih,List.set_comm _ _ (by omega)]
theorem refInit_eq (k n:List UInt8) (count:UInt32):refInit k n count=qWl k n count:=by
 have h1:=(qYI headL 4 k 8 (by simp [headL]) (fun j _=>qYQ _ (by omega)))
 have h2:=(qYI (qWk headL 4 k 8) 13 n 3 (by rw [qXv];simp [headL]) (fun j hj=>by
  have:=h1.2 (9+j) (by omega)
  rw[show 4+(9+j)=13+j by omega]at this
  rw[this]
  exact qYQ _ (by omega)))
 rw[refInit,qWl,wordK_set _ _ _ _ _ _ (by omega),←h2.1,←h1.1]
end Go.Proofs.YtlocplkjokoknaaGreat
