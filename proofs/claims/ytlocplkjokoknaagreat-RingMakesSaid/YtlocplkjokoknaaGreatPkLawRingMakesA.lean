/- Part 1 of what the law LawRingMakes needs. No condition but those each theorem states. -/
import Derived.ArgAppend
import Derived.BigQuiet
import Derived.BigRegion
import Derived.Carry
import Derived.Deep.AppendLies
import Derived.Deep.DeepCutAuto
import Derived.Deep.DrawnRows
import Derived.Deep.MidRow
import Derived.Deep.QuietTactic
import Derived.Deep.RegionHeld3
import Derived.Deep.WholeRow
import Derived.KernelRfl
import Derived.Laws.BytesArg
import Derived.Laws.CopyOwn
import Derived.Laws.IdiomMaps
import Derived.Laws.MakeOwn
import Derived.Lib.AppendZerosOnto
import Derived.Lib.ConvBytes
import Derived.Lib.Hide
import Derived.Lib.SliceRun
import Derived.Maps.AppendAt
import Derived.OrdersHeld
import Derived.Outline
import Derived.StillTailTactics
import Derived.StringKeys
import Derived.Test.YtlocplkjokoknaaGreatProg
import Derived.WalkKit
import Derived.WalkLawsBesides
import Derived.WalkSpells
set_option linter.unusedVariables false
set_option linter.unusedSimpArgs false
set_option maxHeartbeats 32000000
set_option maxRecDepth 100000
open List renaming getD_eq_getElem?_getD → kQa, replicate → kQc, getElem?_toArray → kQd, getElem?_cons_succ → kQe, toList_toArray → kQf, getElem?_cons_zero → kQg, getElem?_eq_getElem → kQi, length_append → kQj, filterMap_cons → kQl, filterMap_nil → kQm, take_of_length_le → kQn, length_take → kQp, getElem?_append_right → kQq, map_toArray → kQs, drop_of_length_le → kQt, mem_of_getElem? → kQu, length_drop → kQv, map_cons → kQw
open Nat renaming lt_of_lt_of_le → kQb, le_refl → kQh, le_trans → kQk, eq_of_beq_eq_true → kQr
open Option renaming map_some → kQo
namespace Go.Proofs.YtlocplkjokoknaaGreat
open Go.RowKit
theorem Lh {p : Prop} (h : p) : Hid p := Lib.hid h
theorem pq1 {α : Type _} (l : List α) (i : Nat) (a : α) : l.toArray.setIfInBounds i a = (l.set i a).toArray := List.setIfInBounds_toArray l i a
theorem pq2 {α : Type _} {x : α} {xs : List α} {a : α} : (x :: xs).set 0 a = a :: xs := List.set_cons_zero
theorem pq3 {α : Type _} {x : α} {xs : List α} {i : Nat} {a : α} : (x :: xs).set (i + 1) a = x :: xs.set i a := List.set_cons_succ
def W8 (l:List UInt8):Array Value:=(l.map fun x=>Value.int .u8 (x.toNat:Int)).toArray
def W32 (l:List UInt32):Array Value:=(l.map fun x=>Value.int .u32 (x.toNat:Int)).toArray
theorem qQw (l:List UInt8):(W8 l).size=l.length:=by simp [W8]
theorem qQA (l:List UInt32):(W32 l).size=l.length:=by simp [W32]
theorem qZ4 (l:List UInt8) (i:Nat) (h:i<l.length):(W8 l)[i]?=some (.int .u8 ((l.getD i 0).toNat:Int)):=by simp [W8,h]
theorem qQZ (l:List UInt32) (i:Nat) (h:i<l.length):(W32 l)[i]?=some (.int .u32 ((l.getD i 0).toNat:Int)):=by simp [W32,h]
theorem qYX (l:List UInt8) (i:Nat) (x:UInt8):(W8 l).setIfInBounds i (.int .u8 (x.toNat:Int))=W8 (l.set i x):=by simp [W8,List.map_set]
theorem qVD (l:List UInt32) (i:Nat) (x:UInt32):(W32 l).setIfInBounds i (.int .u32 (x.toNat:Int))=W32 (l.set i x):=by simp [W32,List.map_set]
theorem u8_lt (x:UInt8):(x.toNat:Int)<256:=by have:=x.toNat_lt;omega
theorem qZY (a b:UInt32):((a.toNat:Int)+(b.toNat:Int)) % 4294967296=((a+b).toNat:Int):=by
 rw[UInt32.toNat_add];omega
theorem qXf (a b:UInt32):bits .xor .u32 (a.toNat:Int) (b.toNat:Int)=((a ^^^ b).toNat:Int):=by
 rw[u32_xor_nat _ _ a.toNat_lt b.toNat_lt,UInt32.toNat_xor]
theorem qX2 (a b:UInt32):∃z:UInt32,Hid (z=a ^^^ b)∧bits .xor .u32 (a.toNat:Int) (b.toNat:Int)=(z.toNat:Int):=⟨_,rfl,qXf a b⟩
theorem u32_or' (a b:UInt32):bits .or .u32 (a.toNat:Int) (b.toNat:Int)=((a ||| b).toNat:Int):=by
 rw[u32_or_nat _ _ a.toNat_lt b.toNat_lt,UInt32.toNat_or]
theorem qWn (a b:UInt32):bits .and .u32 (a.toNat:Int) (b.toNat:Int)=((a &&& b).toNat:Int):=by
 rw[u32_and_nat _ _ a.toNat_lt b.toNat_lt,UInt32.toNat_and]
theorem u8_xor' (a b:UInt8):bits .xor .u8 (a.toNat:Int) (b.toNat:Int)=((a ^^^ b).toNat:Int):=by
 rw[u8_xor_nat _ _ a.toNat_lt b.toNat_lt,UInt8.toNat_xor]
def rotl (x:UInt32) (r:Nat):UInt32:=x <<< (UInt32.ofNat r) ||| x >>> (UInt32.ofNat (32-r))
theorem qZ1 {P:Program} {c:Code} {Q:Exit→Act→World→Prop} {a:Act} {w0:World} (R:World→Prop) (h0:R w0) (h:∀W,R W→c.wp P Q a W):c.wp P Q a w0:=h _ h0
theorem calls_abs {P:Program} {f:FuncId} {args:Array Value} {w0:World} {S:Ending→World→Prop} (R:World→Prop) (h0:R w0) (h:∀W,R W→Calls P f args W S):Calls P f args w0 S:=h _ h0
theorem qQg {w:World} {g:Nat} {cs:Array Value} {t:TypeId} {fr:Nat×Nat} (h:w.heap[g]?=some (.cells cs t fr)) (i:Nat) {v:Value} (hv:cs[i]?=some v):w.cell? ⟨g,i,none⟩=some v:=
 (cell_of_row w g i cs t fr h).trans hv
theorem qQz {w:World} {g:Nat} {cs:Array Value} {t:TypeId} (h:w.heap[g]?=some (.cells cs t (0,0))) (i:Nat):w.frozen? ⟨g,i,none⟩=false:=frozen_of_row w g i cs t h
theorem qQe {w:World} {g:Nat} {o:Obj} (h:w.heap[g]?=some o):g<w.heap.size:=(Array.getElem?_eq_some_iff.1 h).1
theorem qQF {w0 w:World} {g:Nat} (h:w0.grownBy w (some g)) (i:Nat) (v:Value):w0.grownBy (w.setCell ⟨g,i,none⟩ v) (some g):=
 World.grownBy.trans h ⟨rfl,rfl,rfl,by simp [World.setCell],fun k hk hne=>Below.heap_setCell _ _ _ _ (fun e=>hne (by rw [e]))⟩
theorem qZS {w0 w:World} {r:Option Nat} (h:w0.grownBy w r):w0.grownBy w.drew r:=⟨h.os,h.tape,h.output,h.size,h.block⟩
theorem qQk (w:World) (o:Obj) (k:Nat) (h:k=w.heap.size):(w.alloc o).heap[k]?=some o:=by subst h;exact heap_alloc_last w o
theorem qQM (w:World) (o:Obj) (k:Nat) (h:k<w.heap.size) {x:Option Obj} (hx:w.heap[k]?=x):(w.alloc o).heap[k]?=x:=(Below.heap_alloc w o k h).trans hx
theorem qQD (w:World) (o:Obj):(w.alloc o).heap.size=w.heap.size+1:=by simp
theorem qQb {B k:Nat} {w w':World} {o:Obj} (h:Below B w w') (hk:k<B) (hx:w.heap[k]?=some o):w'.heap[k]?=some o:=(h.block k hk).trans hx
theorem qQd {k:Nat} {w w':World} {r:Option Nat} {o:Obj} (h:w.grownBy w' r) (hk:some k≠r) (hx:w.heap[k]?=some o):w'.heap[k]?=some o:=(h.block k (qQe hx) hk).trans hx
theorem qQi {w w':World} {r:Option Nat} {B:Nat} (h:w.grownBy w' r) (hB:B≤w.heap.size) (hr:∀g,r=some g→B≤g):Below B w w':=
 ⟨h.os,h.tape,h.output,h.size,fun k hk=>h.block k (kQb hk hB) (fun e=>by have:=hr k e.symm;omega)⟩
section
variable {P:Program} {ops:Array Oper} {rest:List Oper} {o:Oper} {a:Act} {Q:Exit→Act→World→Prop}
theorem qQp (hgd:o.guard=none) (hdst:o.dst=none) (ty:TypeId) (x y:Operand) (ho:o.op=.store ty x y) {w:World} {c:Array Value} {t:TypeId} (cells:Array Value)
  (hx:a.eval x=.pointer (some ⟨w.heap.size,0,none⟩)) (hy:a.eval y=.agg cells) (hi:(P.info? ty).map (·.size)=some cells.size) (hold:c.size=cells.size) (h1:cells.all (·.oneCell')=true)
  (h:wpList P ops Q rest a (w.alloc (.cells cells t))):wpList P ops Q (o::rest) a (w.alloc (.cells c t)):=by
 refine wpList_store_row hgd ty x y ho w.heap.size cells hx hy t c (heap_alloc_last w _) hi hold h1 ?_
 rw[World.setRow_alloc_new,hdst]
 exact h
theorem qQf (hgd:o.guard=none) (hdst:o.dst=none) (ty:TypeId) (x y:Operand) (ho:o.op=.store ty x y) {w:World}
  (g:Nat) (cells:Array Value) (hx:a.eval x=.pointer (some ⟨g,0,none⟩)) (hy:a.eval y=.agg cells)
  (t:TypeId) (old:Array Value) (hg:w.heap[g]?=some (.cells old t (0,0))) (hi:(P.info? ty).map (·.size)=some cells.size)
  (hold:old.size=cells.size) (h1:cells.all (·.oneCell')=true)
  (h:∀w',w'.heap[g]?=some (.cells cells t (0,0))→w.grownBy w' (some g)→w'.heap.size=w.heap.size→wpList P ops Q rest a w'):wpList P ops Q (o::rest) a w:=by
 refine wpList_store_row hgd ty x y ho g cells hx hy t old hg hi hold h1 ?_
 rw[hdst]
 exact h _ (setRow_heap w g _ _ t _ hg) ⟨rfl,rfl,rfl,by simp,fun k hk hne=>setRow_other w g k cells (fun e=>hne (by rw [e]))⟩ (by simp)
end
theorem qZg (l:List UInt8):(W8 l).all (·.oneCell')=true:=all_oneCell_toArray (by intro v hv;simp only [List.mem_map]at hv;obtain⟨q,_,rfl⟩:=hv;rfl)
theorem qZt (l:List UInt32):(W32 l).all (·.oneCell')=true:=all_oneCell_toArray (by intro v hv;simp only [List.mem_map]at hv;obtain⟨q,_,rfl⟩:=hv;rfl)
def RdB (w:World) (A:Option Addr) (l:List UInt8):Prop:=∀j,j<l.length→∃b o,A=some ⟨b,o,none⟩∧w.cell? ⟨b,o+j,none⟩=some (.int .u8 ((l.getD j 0).toNat:Int))
def Off (A:Option Addr) (g:Nat):Prop:=∀a,A=some a→a.block≠g
theorem RdB.get {w:World} {A:Option Addr} {l:List UInt8} (h:RdB w A l) (j:Nat) (hj:j<l.length):∃b o,A=some ⟨b,o,none⟩∧∃x:UInt8,Hid (x=l.getD j 0)∧w.cell? ⟨b,o+j,none⟩=some (.int .u8 (x.toNat:Int)):=by
 obtain⟨b,o,e,hc⟩:=h j hj
 exact⟨b,o,e,_,rfl,hc⟩
theorem RdB.grown {w w':World} {A:Option Addr} {l:List UInt8} {r:Option Nat} (h:RdB w A l) (hg:w.grownBy w' r) (hne:∀g,r=some g→Off A g):RdB w' A l:=by
 intro j hj
 obtain⟨b,o,e,hc⟩:=h j hj
 exact⟨b,o,e,hg.cell hc (fun er=>hne b er.symm _ e rfl)⟩
theorem RdB.below {w w':World} {A:Option Addr} {l:List UInt8} {B:Nat} (h:RdB w A l) (hb:Below B w w') (hlt:∀a,A=some a→a.block<B):RdB w' A l:=by
 intro j hj
 obtain⟨b,o,e,hc⟩:=h j hj
 exact⟨b,o,e,(hb.cell (p:=⟨b,o+j,none⟩) (hlt ⟨b,o,none⟩ e)).trans hc⟩
theorem RdB.nil (w:World) (A:Option Addr):RdB w A []:=fun j hj=>absurd hj (by simp)
theorem RdB.row {w:World} {g:Nat} {l:List UInt8} {t:TypeId} {fr:Nat×Nat} (h:w.heap[g]?=some (.cells (W8 l) t fr)):RdB w (some ⟨g,0,none⟩) l:=fun j hj=>
 ⟨g,0,rfl,by rw [Nat.zero_add];exact qQg h j (qZ4 l j hj)⟩
def strB (l:List UInt8):ByteArray:=⟨l.toArray⟩
theorem strOfNums_eq (l:List UInt8):strOfNums (l.map fun x=>(x.toNat:Int))=strB l:=by
 unfold strOfNums strB
 congr 2
 rw[List.map_map]
 conv=>rhs;rw [←List.map_id l]
 apply List.map_congr_left
 intro x _
 simp
theorem conv_str {P:Program} {src dst e:TypeId} (hs:P.underlying src=some (.slice e)) (he:P.underlying e=some (.int .u8)) (hd:P.underlying dst=some .string) {w:World} {A:Option Addr} {l:List UInt8} (h:RdB w A l) (n c:Nat) (hn:l.length=n) :
  (convert src dst (.slice A n c)).run P w=.ok (.string (strB l)) w:=by
 subst hn
 rcases l with _|⟨x,r⟩
 ·rcases A with _|⟨b,o,sp⟩
  ·exact run_convert_bytes_nil w src e hs he 0 c dst hd
  ·simp only [List.length_nil]
   rw[run_convert_bytes_string w src dst e _ 0 c hs he hd]
   simp [Conv.bytesToString,strB,loadCells,loadCellsFrom]
   rfl
 ·obtain⟨b,o,rfl,hc⟩:=h 0 (by simp)
  have hh:=run_convert_bytes_arg (P:=P) w src e hs he b o (x::r).length c ((x::r).map fun x=>(x.toNat:Int)) (by simp) (fun i hi=>by
   obtain⟨b',o',e',hc'⟩:=h i hi
   injection e' with e'
   injection e' with e1 e2
   subst e1 e2
   rw[hc',kQa,kQa,List.getElem?_map,kQi hi]
   rfl) dst hd
  rw[strOfNums_eq]at hh
  exact hh
theorem strB_inj {l l':List UInt8}:strB l=strB l'↔l=l':=by
 constructor
 ·intro h
  have:l.toArray=l'.toArray:=congrArg ByteArray.data h
  simpa using this
 ·rintro rfl;rfl
def B8 (l:List UInt8):List Value:=l.map fun x=>Value.int .u8 (x.toNat:Int)
theorem qQt (l:List UInt8):(B8 l).length=l.length:=by simp [B8]
theorem qWU (l l':List UInt8):B8 (l++l')=B8 l++B8 l':=by simp [B8]
theorem qV3 (l:List UInt8) (j:Nat) (hj:j<l.length):(B8 l)[j]?=some (.int .u8 ((l.getD j 0).toNat:Int)):=by simp [B8,hj]
theorem B8_one (l:List UInt8):∀u∈B8 l,u.oneCell'=true:=by
 intro u hu
 simp only [B8,List.mem_map]at hu
 obtain⟨x,_,rfl⟩:=hu
 rfl
def OwnB (w:World) (base:Nat) (v:Value) (l:List UInt8):Prop:=w.ownsRow base 5 1 v l.length (B8 l)
theorem qXZ (b o j:Nat):(⟨b,o,none⟩:Addr).add j=⟨b,o+j,none⟩:=by unfold Addr.add;split<;>simp_all
theorem OwnB.read {w:World} {base:Nat} {v:Value} {l:List UInt8} (h:OwnB w base v l) :
  ∃A c,v=.slice A l.length c∧RdB w A l∧l.length≤c∧c≤9223372036854775807∧∀a,A=some a→base≤a.block∧a.block<w.heap.size:=by
 have h':=h
 rcases h'.2 with ⟨hv,hn⟩|⟨g,cap,cur,hv,hb,hh,hnc,hcm,hcs,_⟩
 ·exact⟨none,0,by rw [hv,hn],fun j hj=>absurd hj (by omega),by omega,by omega,fun a e=>by cases e⟩
 ·refine⟨_,cap,hv,fun j hj=>⟨g,0,rfl,?_⟩,hnc,by simpa [maxLen]using hcm,fun a e=>by cases e;exact⟨hb,qQe hh⟩⟩
  have:=h.cells (g:=g) (by rw [hv];rfl) j _ (qV3 l j hj)
  rwa [qXZ]at this
theorem OwnB.nil (w:World) (base:Nat):OwnB w base (.slice none 0 0) []:=World.ownsRow_nil _ _ _ _
theorem OwnB.alloc {w:World} {base:Nat} {v:Value} {l:List UInt8} (h:OwnB w base v l) (o:Obj):OwnB (w.alloc o) base v l:=World.ownsRow.alloc h o
theorem OwnB.drew {w:World} {base:Nat} {v:Value} {l:List UInt8} (h:OwnB w base v l):OwnB w.drew base v l:=World.ownsRow.drew h
theorem OwnB.lt {w:World} {base:Nat} {v:Value} {l:List UInt8} (h:OwnB w base v l):∀k,v.ownBlock=some k→base≤k∧k<w.heap.size:=World.ownsRow.lt h
theorem OwnB.grown {w w':World} {base:Nat} {v:Value} {l:List UInt8} {r:Option Nat} (h:OwnB w base v l) (hg:w.grownBy w' r) (hne:v.ownBlock=none∨v.ownBlock≠r):OwnB w' base v l:=World.ownsRow.kept h hg hne
theorem qQJ {w w':World} (h:Below w.heap.size w w'):w.grownBy w' none:=⟨h.os,h.tape,h.output,h.size,fun i hi _=>h.block i hi⟩
theorem OwnB.below {w w':World} {base:Nat} {v:Value} {l:List UInt8} (h:OwnB w base v l) (hb:Below w.heap.size w w'):OwnB w' base v l:=h.grown (qQJ hb) (by cases v.ownBlock<;>simp)
theorem OwnB.mono {w:World} {base base':Nat} {v:Value} {l:List UInt8} (h:OwnB w base v l) (hb:base'≤base):OwnB w base' v l:=by
 refine⟨h.1,?_⟩
 rcases h.2 with h2|⟨g,cap,cur,hv,hg,r⟩
 ·exact .inl h2
 ·exact .inr ⟨g,cap,cur,hv,kQk hb hg,r⟩
structure qXA (P:Program):Prop where
 ht:P.underlying 22=some (.slice 5)
 hinfo:(P.info? 5).map (fun i=>(i.zero,i.size,i.bytes))=some (some (.int .u8 0),1,1)
theorem run_app {P:Program} (T:qXA P) (ty:TypeId) (W:World) (base:Nat) (v:Value) (l ys:List UInt8) (A:Option Addr) (m c:Nat) (hm:ys.length=m) (HO:OwnB W base v l) (HR:RdB W A ys) (hbase:base≤W.heap.size) (hl:l.length+m≤140737488355328) :
  ∃v1 w1,(Builtin.append_ #[22,22] ty #[v,.slice A m c]).run P W=.ok v1 w1∧OwnB w1 base v1 (l++ys)∧W.grownBy w1 v.ownBlock∧(v1.ownBlock=v.ownBlock∨v1.ownBlock=some W.heap.size):=by
 obtain⟨i0,hi,hzz⟩:=Option.map_eq_some_iff.1 T.hinfo
 simp only [Prod.mk.injEq]at hzz
 obtain⟨hz0,hz1,hz2⟩:=hzz
 have ht:=T.ht
 subst hm
 rcases ys with _|⟨y,r⟩
 ·rcases A with _|ad
  ·refine⟨v,W,?_,by simpa using HO,World.grownBy.refl W _,.inl rfl⟩
   rcases HO.2 with ⟨rfl,hn⟩|⟨g,cap,cur,rfl,_,_,hnc,_⟩
   ·simp [Builtin.append_,run_underlying ht,sizeOf,typeInfo,hi,Builtin.lenOf,Builtin.firstCells]
   ·simp [Builtin.append_,run_underlying ht,sizeOf,typeInfo,hi,Builtin.lenOf,Builtin.firstCells,hnc,storeCells]
  ·obtain⟨v1,w1,hr,h2,h3,_,h5⟩:=run_append_own_at (P:=P) W base 22 ty 5 i0 (.int .u8 0) 1 1 ht hi hz0 hz1 hz2 rfl (by omega) v l.length (B8 l) HO ad 0 c [] (by simp) (by simp) (by simp) (by simp only [maxLen];omega) (by omega) hbase
   exact⟨v1,w1,hr,by simpa [OwnB]using h2,h3,h5⟩
 ·obtain⟨b,o,rfl,_⟩:=HR 0 (by simp)
  obtain⟨v1,w1,hr,h2,h3,_,h5⟩:=run_append_own_at (P:=P) W base 22 ty 5 i0 (.int .u8 0) 1 1 ht hi hz0 hz1 hz2 rfl (by omega) v l.length (B8 l) HO ⟨b,o,none⟩ (y::r).length c (B8 (y::r)) (by simp [B8])
   (fun j u hu=>by
    have hj:j<(y::r).length:=by
     have:=(List.getElem?_eq_some_iff.1 hu).1
     rwa [qQt]at this
    obtain⟨b',o',e',hc'⟩:=HR j hj
    injection e' with e'
    injection e' with e1 e2
    subst e1 e2
    rw[qXZ,hc',←qV3 _ j hj,hu]) (B8_one _) (by simp only [maxLen];omega) (by omega) hbase
  refine⟨v1,w1,hr,?_,h3,h5⟩
  rw[OwnB,kQj,qWU]
  exact h2
section
variable {P:Program} {ops:Array Oper} {rest:List Oper} {o:Oper} {a:Act} {Q:Exit→Act→World→Prop} {K:Act→World→Prop} {E:Prop}
theorem qV2 (T:qXA P) (s x:Operand) (ho:o.op=.call { callee:=.builtin .append,args:=#[s,x],argTypes:=#[22,22] }) {W:World}
  (base:Nat) (v:Value) (l ys:List UInt8) (A:Option Addr) (m c:Nat) (hs:a.eval s=v) (hx:a.eval x=.slice A m c) (hm:ys.length=m) (HO:OwnB W base v l) (HR:RdB W A ys) (hbase:base≤W.heap.size) (hl:l.length+m≤140737488355328)
  (h:∀v1 w1,OwnB w1 base v1 (l++ys)→W.grownBy w1 v.ownBlock→(v1.ownBlock=v.ownBlock∨v1.ownBlock=some W.heap.size)→K (a.put o.dst v1) w1):o.wp P a W K Q:=by
 obtain⟨v1,w1,hr,h2,h3,h5⟩:=run_app T o.type W base v l ys A m c hm HO HR hbase hl
 unfold Oper.wp execOp
 simp only [ho,resolve,invoke,builtin,Sem.run_bind,Sem.run_pure,Result.andThen_ok,kQs,kQw,List.map_nil,hs,hx,hr]
 exact h v1 w1 h2 h3 h5
theorem qX1 (hgd:o.guard=none) (T:qXA P) (s x:Operand) (ho:o.op=.call { callee:=.builtin .append,args:=#[s,x],argTypes:=#[22,22] }) {W:World}
  (base:Nat) (v:Value) (l ys:List UInt8) (A:Option Addr) (m c:Nat) (hs:a.eval s=v) (hx:a.eval x=.slice A m c) (hm:ys.length=m) (HO:OwnB W base v l) (HR:RdB W A ys) (hbase:base≤W.heap.size) (hl:l.length+m≤140737488355328)
  (h:∀v1 w1,OwnB w1 base v1 (l++ys)→W.grownBy w1 v.ownBlock→(v1.ownBlock=v.ownBlock∨v1.ownBlock=some W.heap.size)→wpList P ops Q rest (a.put o.dst v1) w1):wpList P ops Q (o::rest) a W:=
 wpList_plain hgd fun _ hK=>qV2 T s x ho base v l ys A m c hs hx hm HO HR hbase hl (fun v1 w1 h1 h2 h3=>hK _ _ (h v1 w1 h1 h2 h3))
theorem app_step (hgd:o.guard=none) (T:qXA P) (s x:Operand) (ho:o.op=.call { callee:=.builtin .append,args:=#[s,x],argTypes:=#[22,22] }) {W:World}
  (base:Nat) (v:Value) (l ys:List UInt8) (A:Option Addr) (m c:Nat) (hs:a.eval s=v) (hx:a.eval x=.slice A m c) (hm:ys.length=m) (HO:OwnB W base v l) (HR:RdB W A ys) (hbase:base≤W.heap.size) (hl:l.length+m≤140737488355328)
  (h:∀v1 w1,OwnB w1 base v1 (l++ys)→W.grownBy w1 v.ownBlock→(v1.ownBlock=v.ownBlock∨v1.ownBlock=some W.heap.size)→K (a.put o.dst v1) w1):if Region.wanted o (yielded ops a.tmps)=true then Oper.wp P o a W K Q else E:=by
 rw[if_pos (by simp [Region.wanted,hgd])]
 exact qV2 T s x ho base v l ys A m c hs hx hm HO HR hbase hl h
end
theorem RdB.one {w:World} {b:Nat} {y:UInt8} (h:w.cell? ⟨b,0,none⟩=some (.int .u8 (y.toNat:Int))):RdB w (some ⟨b,0,none⟩) [y]:=by
 intro j hj
 obtain rfl:j=0:=by simp at hj;omega
 exact⟨b,0,rfl,h⟩
theorem qVR {P:Program} (t e:TypeId) {i:TypeInfo} (ht:P.underlying t=some (.slice e)) (hi:P.info? e=some i) (hsz:i.size=1) (A:Option Addr) (n c m:Nat) (hm:m≤n) :
  ∃A':Option Addr,(∀W:World,(Instr.slice t (.slice A n c) (some (.int .i64 (m:Int))) none none).run P W=.ok (.slice A' (n-m) (c-m)) W)∧
   (∀(w:World) (l:List UInt8),l.length=n→n≤c→RdB w A l→RdB w A' (l.drop m))∧(∀a',A'=some a'→∃a,A=some a∧a'.block=a.block):=by
 refine⟨if c=m then A else A.map (·.add m),fun W=>?_,fun w l hl hc h=>?_,fun a' ha'=>?_⟩
 ·have hel:P.elem t=e:=by simp [Program.elem,ht]
  have hu:P.underlying t=some (.slice (P.elem t)):=by rw [hel];exact ht
  rw[run_slice_l W t A n c hu .i64 (m:Int) (Int.natCast_nonneg _) (by omega),hel]
  simp [sizeOf,typeInfo,hi,hsz,sliced,Result.andThen]
 ·intro j hj
  have hj':m+j<l.length:=by simp at hj;omega
  obtain⟨b,o,rfl,hcell⟩:=h (m+j) hj'
  rw[if_neg (by omega)]
  refine⟨b,o+m,by simp [qXZ],?_⟩
  rw[Nat.add_assoc,hcell]
  simp [kQa,List.getElem?_drop]
 ·split at ha'
  ·exact⟨a',ha',rfl⟩
  ·rcases A with _|⟨b,o,sp⟩
   ·simp at ha'
   ·simp at ha'
    subst ha'
    refine⟨_,rfl,?_⟩
    unfold Addr.add
    split<;>rfl
theorem RdB.take {w:World} {A:Option Addr} {l:List UInt8} (h:RdB w A l) (m:Nat):RdB w A (l.take m):=by
 intro j hj
 simp at hj
 obtain⟨b,o,e,hc⟩:=h j (by omega)
 exact⟨b,o,e,by
  rw[hc]
  have h1:j<m:=by omega
  simp [kQa,List.getElem?_take,h1]⟩
theorem qVT {w:World} {a:Addr} {v:Value} (h:w.cell? a=some v) (o:Obj):(w.alloc o).cell? a=some v:=by
 rw[World.cell?_alloc_lt _ _ _ (World.block_lt_of_cell? w a h)]
 exact h
theorem qVS {w w':World} {r:Option Nat} {a:Addr} {v:Value} (hg:w.grownBy w' r) (h:w.cell? a=some v) (hr:∀g,r=some g→a.block≠g):w'.cell? a=some v:=
 hg.cell h (fun e=>hr _ e.symm rfl)
theorem made_W8 (n:Nat):madeCells #[Value.int .u8 0] n=W8 (kQc n 0):=by
 rw[←Array.toArray_toList (xs:=madeCells #[Value.int .u8 0] n),toList_madeCells_one]
 simp [W8]
theorem qQj {P:Program} {o:Oper} {a:Act} {w:World} (ty:TypeId) (x:Operand) (ho:o.op=.load ty x)
  (g:Nat) (hx:a.eval x=.pointer (some ⟨g,0,none⟩)) (t:TypeId) (cs:Array Value) (fr:Nat×Nat) (d:TypeDesc) (hg:w.heap[g]?=some (.cells cs t fr))
  (hu:P.underlying ty=some d) (hd:(match d with | .struct _ | .array _ _=>true|_=>false)=true) (hi:(P.info? ty).map (·.size)=some cs.size):(execOp a.eval o).run P w=.ok (.value (.agg cs)) w:=by
 unfold execOp
 simp only [ho,hx,Instr.loadAt,Instr.sureAddr,Sem.run_bind,Sem.run_pure,Result.andThen_ok,run_loadVar_row w g t ty cs fr d hg hu hd hi]
def lenOf:Value→Nat
 | .slice _ n _=>n
 | _=>0
section
variable {P:Program} {ops:Array Oper} {Q:Exit→Act→World→Prop} {S:World→Prop}
def planTB (ops:Array Oper):List Nat→Array Bool→Bool
 | i::T,L=>(ops[i]?).isSome&&(match Region.ready .any ops L with | [j]=>Nat.beq j i|_=>false)&&planTB ops T (L.setIfInBounds i true)
 | [],L=>(Region.ready .any ops L).isEmpty
def planB (ops:Array Oper):List Nat→List Nat→Array Bool→Bool
 | i::H,T,L=>(ops[i]?).isSome&&Region.free .any ops L i&&(Region.ready .any ops L).contains i&&planB ops H T (L.setIfInBounds i true)
 | [],T,L=>planTB ops T L
def qJ5 (P:Program) (ops:Array Oper) (Q:Exit→Act→World→Prop) (S:World→Prop):List Oper→Act→World→Prop
 | [],a,w=>Q .normal a w
 | o::rest,a,w=>if Region.wanted o (yielded ops a.tmps)=true then o.wp P a w (fun a' w'=>S w'∧qJ5 P ops Q S rest a' w') Q else S w∧qJ5 P ops Q S rest (a.put o.dst undef) w
def planQ (P:Program) (ops:Array Oper) (S:World→Prop) (R:Act→Prop):List Oper→Act→Prop
 | [],a=>R a
 | o::rest,a=>∃v,YieldsIf P ops S o v a∧planQ P ops S R rest (a.put o.dst v)
theorem qJd:∀(T:List Nat) (fuel:Nat) (L:Array Bool) (a:Act) (w:World),T.length≤fuel→planTB ops T L=true→
  qJ5 P ops Q S (T.filterMap fun i=>ops[i]?) a w→wpAnyH P .any ops Q S fuel L a w
 | [],fuel,L,a,w,_,hB,h=>by
  simp only [planTB,List.isEmpty_iff]at hB
  exact wpAnyH_done hB h fuel
 | i::T,fuel,L,a,w,hf,hB,h=>by
  simp only [planTB,Bool.and_eq_true]at hB
  obtain⟨⟨hi,hr0⟩,hB'⟩:=hB
  have hr:Region.ready .any ops L=[i]:=by
   split at hr0
   ·rename_i j hj
    rw[hj,kQr hr0]
   ·cases hr0
  obtain⟨o,ho⟩:=Option.isSome_iff_exists.1 hi
  obtain⟨fuel,rfl⟩:∃m,fuel=m+1:=⟨fuel-1,by simp at hf;omega⟩
  have e:(i::T).filterMap (fun i=>ops[i]?)=o::T.filterMap fun i=>ops[i]?:=by simp [ho]
  rw[e]at h
  refine wpAnyH_all hr (by simp) ?_
  intro j hj
  obtain rfl:j=i:=by simpa using hj
  unfold wpOp
  simp only [ho]
  unfold qJ5 at h
  split
  ·rename_i hw
   rw[if_pos hw]at h
   refine .inl ?_
   exact Oper.wp_mono (fun a' w' hh=>⟨hh.1,qJd T fuel _ a' w' (by simp at hf;omega) hB' hh.2⟩) h
  ·rename_i hw
   rw[if_neg hw]at h
   exact⟨h.1,qJd T fuel _ _ w (by simp at hf;omega) hB' h.2⟩
theorem qKT (hQ:∀c a d v w,Q (.panic c) (Act.put a d v) w→Q (.panic c) a w) (hs:Region.noSelect ops=true) (T:List Nat) (w:World) (hS:S w):∀(H:List Nat) (fuel:Nat) (L:Array Bool) (a:Act),H.length+T.length≤fuel→planB ops H T L=true→
  planQ P ops S (fun a'=>qJ5 P ops Q S (T.filterMap fun i=>ops[i]?) a' w) (H.filterMap fun i=>ops[i]?) a→wpAnyH P .any ops Q S fuel L a w
 | [],fuel,L,a,hf,hB,h=>qJd T fuel L a w (by simpa using hf) hB h
 | i::H,fuel,L,a,hf,hB,h=>by
  simp only [planB,Bool.and_eq_true]at hB
  obtain⟨⟨⟨hi,hfr⟩,hr⟩,hB'⟩:=hB
  obtain⟨o,ho⟩:=Option.isSome_iff_exists.1 hi
  obtain⟨fuel,rfl⟩:∃m,fuel=m+1:=⟨fuel-1,by simp at hf;omega⟩
  have e:(i::H).filterMap (fun i=>ops[i]?)=o::H.filterMap fun i=>ops[i]?:=by simp [ho]
  rw[e]at h
  obtain⟨v,hy,h'⟩:=h
  exact wpAnyH_take ho hs hfr hr (fun c a w hh=>hQ c a _ _ w hh) hy hS (qKT hQ hs T w hS H fuel _ _ (by simp at hf ⊢;omega) hB' h')
theorem qZl {id:Nat} {l:List Oper} {a:Act} {w:World} (S:World→Prop) (H T:List Nat) (hm:P.follows .mixedOrders=true)
  (hB:(planB l.toArray H T (Array.replicate l.toArray.size false)&&Region.noSelect l.toArray&&Nat.ble (H.length+T.length) l.toArray.size)=true)
  (hQ:∀c a d v w,Q (.panic c) (Act.put a d v) w→Q (.panic c) a w) (hS:S w.drew)
  (h:planQ P l.toArray S (fun a'=>qJ5 P l.toArray Q S (T.filterMap fun i=>l.toArray[i]?) a' w.drew) (H.filterMap fun i=>l.toArray[i]?) a):(Code.region id l.toArray true).wp P Q a w:=by
 simp only [Bool.and_eq_true]at hB
 exact wp_region_held hm (qKT hQ hB.1.2 T w.drew hS H _ _ a (Nat.le_of_ble_eq_true hB.2) hB.1.1 h)
theorem qQm {R:Act→Prop} {o:Oper} {rest:List Oper} {a:Act} {v:Value} (hw:Region.wanted o (yielded ops a.tmps)=true) (hy:∀w,S w→(execOp a.eval o).run P w=.ok (.value v) w) (h:planQ P ops S R rest (a.put o.dst v)):planQ P ops S R (o::rest) a:=⟨v,.inl ⟨hw,hy⟩,h⟩
theorem qXE {R:Act→Prop} {a:Act} (h:R a):planQ P ops S R [] a:=h
theorem qXi {o:Oper} {rest:List Oper} {a:Act} {w:World} (hw:Region.wanted o (yielded ops a.tmps)=true)
  (h:∀K:Act→World→Prop,Hid (∀a w,S w→qJ5 P ops Q S rest a w→K a w)→o.wp P a w K Q):qJ5 P ops Q S (o::rest) a w:=by
 unfold qJ5
 rw[if_pos hw]
 exact h _ (fun a w h1 h2=>⟨h1,h2⟩)
theorem qZu {o:Oper} {rest:List Oper} {a:Act} {w:World} {v:Value} (hw:Region.wanted o (yielded ops a.tmps)=true) (hS:S w) (hy:(execOp a.eval o).run P w=.ok (.value v) w) (h:qJ5 P ops Q S rest (a.put o.dst v) w):qJ5 P ops Q S (o::rest) a w:=by
 unfold qJ5
 rw[if_pos hw]
 unfold Oper.wp
 rw[hy]
 exact⟨hS,h⟩
theorem qXD {a:Act} {w:World} (h:Q .normal a w):qJ5 P ops Q S [] a w:=h
end
section
variable {P:Program} {ops:Array Oper} {Q:Exit→Act→World→Prop} {S:World→Prop}
theorem qQ0 {md:Region.Mode} {S':World→Prop} (hSS:∀w,S' w→S w):∀(fuel:Nat) (L:Array Bool) (a:Act) (w:World),wpAnyH P md ops Q S' fuel L a w→wpAnyH P md ops Q S fuel L a w
 | 0,_,_,_,h=>h
 | fuel+1,_,_,_,h=>⟨h.1,fun i hi=>wpOp_mono (fun a' w' h'=>⟨hSS _ h'.1,qQ0 hSS fuel _ a' w' h'.2⟩) (h.2 i hi)⟩
def qVb (ops:Array Oper):List (Bool×Nat)→Array Bool→Bool
 | [],L=>(Region.ready .any ops L).isEmpty
 | (true,i)::T,L=>(ops[i]?).isSome&&Region.free .any ops L i&&(Region.ready .any ops L).contains i&&qVb ops T (L.setIfInBounds i true)
 | (false,i)::T,L=>(ops[i]?).isSome&&(match Region.ready .any ops L with | [j]=>Nat.beq j i|_=>false)&&qVb ops T (L.setIfInBounds i true)
def qVW (P:Program) (ops:Array Oper) (Q:Exit→Act→World→Prop):(World→Prop)→List (Bool×Oper)→Act→World→Prop
 | _,[],a,w=>Q .normal a w
 | S,(true,o)::r,a,w=>∃S':World→Prop,(∀w,S' w→S w)∧S' w∧∃v,YieldsIf P ops S' o v a∧qVW P ops Q S' r (a.put o.dst v) w
 | S,(false,o)::r,a,w=>∃S':World→Prop,(∀w,S' w→S w)∧if Region.wanted o (yielded ops a.tmps)=true then o.wp P a w (fun a' w'=>S' w'∧qVW P ops Q S' r a' w') Q else S' w∧qVW P ops Q S' r (a.put o.dst undef) w
theorem qW1 (hQ:∀c a d v w,Q (.panic c) (Act.put a d v) w→Q (.panic c) a w) (hs:Region.noSelect ops=true):∀(T:List (Bool×Nat)) (S:World→Prop) (fuel:Nat) (L:Array Bool) (a:Act) (w:World),T.length≤fuel→qVb ops T L=true→
  qVW P ops Q S (T.filterMap fun i=>(ops[i.2]?).map fun o=>(i.1,o)) a w→wpAnyH P .any ops Q S fuel L a w
 | [],S,fuel,L,a,w,_,hB,h=>by
  simp only [qVb,List.isEmpty_iff]at hB
  exact wpAnyH_done hB h fuel
 | (true,i)::T,S,fuel,L,a,w,hf,hB,h=>by
  simp only [qVb,Bool.and_eq_true]at hB
  obtain⟨⟨⟨hi,hfr⟩,hr⟩,hB'⟩:=hB
  obtain⟨o,ho⟩:=Option.isSome_iff_exists.1 hi
  obtain⟨fuel,rfl⟩:∃m,fuel=m+1:=⟨fuel-1,by simp at hf;omega⟩
  have e:((true,i)::T).filterMap (fun i=>(ops[i.2]?).map fun o=>(i.1,o))=(true,o)::T.filterMap fun i=>(ops[i.2]?).map fun o=>(i.1,o):=by simp [ho]
  rw[e]at h
  obtain⟨S',hSS,hS,v,hy,h'⟩:=h
  exact qQ0 hSS _ _ _ _ (wpAnyH_take ho hs hfr hr (fun c a w hh=>hQ c a _ _ w hh) hy hS (qW1 hQ hs T S' fuel _ _ w (by simp at hf ⊢;omega) hB' h'))
 | (false,i)::T,S,fuel,L,a,w,hf,hB,h=>by
  simp only [qVb,Bool.and_eq_true]at hB
  obtain⟨⟨hi,hr0⟩,hB'⟩:=hB
  have hr:Region.ready .any ops L=[i]:=by
   split at hr0
   ·rename_i j hj
    rw[hj,kQr hr0]
   ·cases hr0
  obtain⟨o,ho⟩:=Option.isSome_iff_exists.1 hi
  obtain⟨fuel,rfl⟩:∃m,fuel=m+1:=⟨fuel-1,by simp at hf;omega⟩
  have e:((false,i)::T).filterMap (fun i=>(ops[i.2]?).map fun o=>(i.1,o))=(false,o)::T.filterMap fun i=>(ops[i.2]?).map fun o=>(i.1,o):=by simp [ho]
  rw[e]at h
  obtain⟨S',hSS,h⟩:=h
  refine qQ0 hSS _ _ _ _ (wpAnyH_all hr (by simp) ?_)
  intro j hj
  obtain rfl:j=i:=by simpa using hj
  unfold wpOp
  simp only [ho]
  split
  ·rename_i hw
   rw[if_pos hw]at h
   refine .inl ?_
   exact Oper.wp_mono (fun a' w' hh=>⟨hh.1,qW1 hQ hs T S' fuel _ a' w' (by simp at hf;omega) hB' hh.2⟩) h
  ·rename_i hw
   rw[if_neg hw]at h
   exact⟨h.1,qW1 hQ hs T S' fuel _ _ w (by simp at hf;omega) hB' h.2⟩
theorem qQu {id:Nat} {l:List Oper} {a:Act} {w:World} (S:World→Prop) (T:List (Bool×Nat)) (hm:P.follows .mixedOrders=true)
  (hB:(qVb l.toArray T (Array.replicate l.toArray.size false)&&Region.noSelect l.toArray&&Nat.ble T.length l.toArray.size)=true)
  (hQ:∀c a d v w,Q (.panic c) (Act.put a d v) w→Q (.panic c) a w)
  (h:qVW P l.toArray Q S (T.filterMap fun i=>(l.toArray[i.2]?).map fun o=>(i.1,o)) a w.drew):(Code.region id l.toArray true).wp P Q a w:=by
 simp only [Bool.and_eq_true]at hB
 exact wp_region_held hm (qW1 hQ hB.1.2 T S _ _ a w.drew (Nat.le_of_ble_eq_true hB.2) hB.1.1 h)
theorem qQc {o:Oper} {rest:List (Bool×Oper)} {a:Act} {w:World} {v:Value} (hw:Region.wanted o (yielded ops a.tmps)=true) (hS:S w) (hy:∀w,S w→(execOp a.eval o).run P w=.ok (.value v) w) (h:qVW P ops Q S rest (a.put o.dst v) w):qVW P ops Q S ((true,o)::rest) a w:=⟨S,fun _ h=>h,hS,v,.inl ⟨hw,hy⟩,h⟩
theorem qQ2 {o:Oper} {rest:List (Bool×Oper)} {a:Act} {w:World} (hw:Region.wanted o (yielded ops a.tmps)=false) (hS:S w) (h:qVW P ops Q S rest (a.put o.dst undef) w):qVW P ops Q S ((true,o)::rest) a w:=⟨S,fun _ h=>h,hS,undef,.inr ⟨hw,rfl⟩,h⟩
theorem qQE {o:Oper} {rest:List (Bool×Oper)} {a:Act} {w:World} (hw:Region.wanted o (yielded ops a.tmps)=true)
  (h:∀K:Act→World→Prop,Hid (∀a w,S w→qVW P ops Q S rest a w→K a w)→o.wp P a w K Q):qVW P ops Q S ((false,o)::rest) a w:=by
 refine⟨S,fun _ h=>h,?_⟩
 rw[if_pos hw]
 exact h _ (fun a w h1 h2=>⟨h1,h2⟩)
theorem planG_ts {o:Oper} {rest:List (Bool×Oper)} {a:Act} {w:World} (hw:Region.wanted o (yielded ops a.tmps)=false) (hS:S w) (h:qVW P ops Q S rest (a.put o.dst undef) w):qVW P ops Q S ((false,o)::rest) a w:=by
 refine⟨S,fun _ h=>h,?_⟩
 rw[if_neg (by rw [hw];simp)]
 exact⟨hS,h⟩
theorem qQG {a:Act} {w:World} (h:Q .normal a w):qVW P ops Q S [] a w:=h
end
theorem cut_to {P:Program} (t e:TypeId) {i:TypeInfo} (ht:P.underlying t=some (.slice e)) (hi:P.info? e=some i) (hsz:i.size=1) (A:Option Addr) (n c m:Nat) (hm:m≤c) (W:World) :
  (Instr.slice t (.slice A n c) none (some (.int .i64 (m:Int))) none).run P W=.ok (.slice A m c) W:=by
 have hel:P.elem t=e:=by simp [Program.elem,ht]
 have hu:P.underlying t=some (.slice (P.elem t)):=by rw [hel];exact ht
 rw[run_slice_h W t A n c hu .i64 (m:Int) (Int.natCast_nonneg _) (by omega),hel]
 simp only [sizeOf,typeInfo,hi,hsz,sliced,Result.andThen]
 rcases A with _|⟨b,o,sp⟩
 ·simp [Sem.run_pure,hi,hsz,Result.andThen]
 ·simp [Sem.run_pure,hi,hsz,Result.andThen,Addr.add]
  try (cases sp<;>simp)
theorem run_cut_to {P:Program} {o:Oper} {a:Act} (ty:TypeId) (x h:Operand) (ho:o.op=.slice ty x none (some h) none) (e:TypeId) {i:TypeInfo} (ht:P.underlying ty=some (.slice e)) (hi:P.info? e=some i) (hsz:i.size=1)
  (A:Option Addr) (n c m:Nat) (hx:a.eval x=.slice A n c) (hh:a.eval h=.int .i64 (m:Int)) (hm:m≤c) (W:World):(execOp a.eval o).run P W=.ok (.value (.slice A m c)) W:=by
 unfold execOp
 simp only [ho,hx,kQo,Option.map_none,hh,Instr.sliceAt,Sem.run_bind,Sem.run_pure,run_underlying ht,Result.andThen_ok,cut_to ty e ht hi hsz A n c m hm W,Result.andThen_ok]
theorem qVo {P:Program} {o:Oper} {a:Act} (ty:TypeId) (x h:Operand) (ho:o.op=.slice ty x (some h) none none) {e:TypeId} (ht:P.underlying ty=some (.slice e)) {A A':Option Addr} {n c n' c':Nat} {m:Nat}
  (hX:∀W:World,(Instr.slice ty (.slice A n c) (some (.int .i64 (m:Int))) none none).run P W=.ok (.slice A' n' c') W)
  (hx:a.eval x=.slice A n c) (hh:a.eval h=.int .i64 (m:Int)) (W:World):(execOp a.eval o).run P W=.ok (.value (.slice A' n' c')) W:=by
 unfold execOp
 simp only [ho,hx,kQo,Option.map_none,hh,Instr.sliceAt,Sem.run_bind,Sem.run_pure,run_underlying ht,Result.andThen_ok,hX W,Result.andThen_ok]
theorem qZo {P:Program} {o:Oper} {a:Act} (src dst:TypeId) (x:Operand) (ho:o.op=.convert src dst x) {e:TypeId} (hs:P.underlying src=some (.slice e)) (he:P.underlying e=some (.int .u8)) (hd:P.underlying dst=some .string) {w:World} {A:Option Addr} {l:List UInt8} (h:RdB w A l) (n c:Nat) (hn:l.length=n)
  (hx:a.eval x=.slice A n c):(execOp a.eval o).run P w=.ok (.value (.string (strB l))) w:=by
 unfold execOp
 simp only [ho,hx,Sem.run_bind,Sem.run_pure,conv_str hs he hd h n c hn,Result.andThen_ok]
theorem qXs {P:Program} {o:Oper} {a:Act} (ty:TypeId) (x:Operand) (ho:o.op=.slice ty x none none none) (n e:Nat) (ht:P.underlying ty=some (.array n e)) {i:TypeInfo} (hi:P.info? e=some i)
  (g:Nat) (hx:a.eval x=.pointer (some ⟨g,0,none⟩)) (W:World):(execOp a.eval o).run P W=.ok (.value (.slice (some ⟨g,0,none⟩) n n)) W:=by
 unfold execOp
 simp only [ho,hx,Option.map_none,Instr.sliceAt,Sem.run_bind,Sem.run_pure,run_underlying ht,Result.andThen_ok,Instr.sureAddr,Instr.sliceBounds,sizeOf,typeInfo,Addr.add]
 simp [hi]
theorem qJX {P:Program} {o:Oper} {a:Act} (ty:TypeId) (x h:Operand) (ho:o.op=.slice ty x none (some h) none) (n e:Nat) (ht:P.underlying ty=some (.array n e)) {i:TypeInfo} (hi:P.info? e=some i)
  (g m:Nat) (hm:m≤n) (hx:a.eval x=.pointer (some ⟨g,0,none⟩)) (hh:a.eval h=.int .i64 (m:Int)) (W:World):(execOp a.eval o).run P W=.ok (.value (.slice (some ⟨g,0,none⟩) m n)) W:=by
 have hm':(m:Int)≤n:=by omega
 unfold execOp
 simp only [ho,hx,hh,Option.map_none,kQo,Instr.sliceAt,Sem.run_bind,Sem.run_pure,run_underlying ht,Result.andThen_ok,Instr.sureAddr,Instr.sliceBounds,sizeOf,typeInfo,Addr.add]
 simp [run_sliceBound,hm',hi]
theorem slice_ptr {P:Program} (t e n:Nat) (ht:P.underlying t=some (.array n e)) {i:TypeInfo} (hi:P.info? e=some i) (hsz:i.size=1) (g o lo hj:Nat) (h1:lo≤hj) (h2:hj≤n) (h3:lo<n) (W:World) :
  (Instr.sliceAt t (.pointer (some ⟨g,o,none⟩)) (some (.int .i64 (lo:Int))) (some (.int .i64 (hj:Int))) none).run P W=.ok (.slice (some ⟨g,o+lo,none⟩) (hj-lo) (n-lo)) W:=by
 have b1:(lo:Int)≤hj:=by omega
 have b2:(hj:Int)≤n:=by omega
 have b3:¬n=lo:=by omega
 simp only [Instr.sliceAt,Sem.run_bind,Sem.run_pure,run_underlying ht,Result.andThen_ok,Instr.sureAddr,Instr.sliceBounds,sizeOf,typeInfo,Addr.add]
 simp [run_sliceBound,b1,b2,b3,hi,hsz]
theorem qYl {P:Program} (t e n:Nat) (ht:P.underlying t=some (.array n e)) {i:TypeInfo} (hi:P.info? e=some i) (hsz:i.size=1) (k:IntKind) (g o lo:Nat) (h3:lo<n) (W:World) :
  (Instr.sliceAt t (.pointer (some ⟨g,o,none⟩)) (some (.int k (lo:Int))) none none).run P W=.ok (.slice (some ⟨g,o+lo,none⟩) (n-lo) (n-lo)) W:=by
 have b2:(lo:Int)≤n:=by omega
 have b3:¬n=lo:=by omega
 simp only [Instr.sliceAt,Sem.run_bind,Sem.run_pure,run_underlying ht,Result.andThen_ok,Instr.sureAddr,Instr.sliceBounds,sizeOf,typeInfo,Addr.add]
 simp [run_sliceBound,b2,b3,hi,hsz]
theorem qVm {P:Program} {o:Oper} {a:Act} (t:TypeId) (x l:Operand) (ho:o.op=.slice t x (some l) none none) (n e:Nat) (ht:P.underlying t=some (.array n e)) {i:TypeInfo} (hi:P.info? e=some i) (hsz:i.size=1) (k:IntKind) (g off lo:Nat) (h3:lo<n)
  (hx:a.eval x=.pointer (some ⟨g,off,none⟩)) (hl:a.eval l=.int k (lo:Int)) (W:World):(execOp a.eval o).run P W=.ok (.value (.slice (some ⟨g,off+lo,none⟩) (n-lo) (n-lo))) W:=by
 have h:=qYl (P:=P) t e n ht hi hsz k g off lo h3 W
 unfold execOp
 simp only [ho,hx,hl,kQo,Option.map_none,Sem.run_bind,Sem.run_pure,h,Result.andThen_ok]
theorem qQH (l:List UInt8):(strB l).size=l.length:=by simp [strB,ByteArray.size]
theorem strB_get (l:List UInt8) (i:Nat) (hi:i<(strB l).size):(strB l)[i]=l.getD i 0:=by
 have h:i<l.length:=by rwa [qQH]at hi
 show(strB l).data[i]=_
 simp [strB,kQa,h]
theorem idx_str {P:Program} (t:TypeId) (hu:P.underlying t=some .string) (l:List UInt8) (j:Nat) (hj:j<l.length) (k:IntKind) (z:Int) (hz:z=(j:Int)) (W:World) :
  (Instr.index t (.string (strB l)) (.int k z)).run P W=.ok (.int .u8 ((l.getD j 0).toNat:Int)) W:=by
 subst hz
 rw[run_index_string W t (strB l) k (j:Int) hu,dif_pos ⟨by omega,by rw [qQH];omega⟩]
 have:∀(h:(j:Int).toNat<(strB l).size),(strB l)[(j:Int).toNat]=l.getD j 0:=fun h=>strB_get l j h
 rw[this]
theorem qQV {P:Program} {o:Oper} {a:Act} (t:TypeId) (x i:Operand) (ho:o.op=.index t x i) (hu:P.underlying t=some .string) (l:List UInt8) (j:Nat) (y:UInt8) (hy:y=l.getD j 0) (hj:j<l.length) (k:IntKind) (z:Int) (hz:z=(j:Int))
  (hx:a.eval x=.string (strB l)) (hi:a.eval i=.int k z) (W:World):(execOp a.eval o).run P W=.ok (.value (.int .u8 (y.toNat:Int))) W:=by
 subst hy
 unfold execOp
 simp only [ho,hx,hi,Sem.run_bind,Sem.run_pure,idx_str t hu l j hj k z hz W,Result.andThen_ok]
theorem qXB {P:Program} {o:Oper} {a:Act} (t:TypeId) (x i:Operand) (ho:o.op=.indexAddr t x i) (n e:Nat) (ht:P.underlying t=some (.array n e)) {ti:TypeInfo} (hi:P.info? e=some ti) (hsz:ti.size=1)
  (g j:Nat) (hj:j<n) (k:IntKind) (z:Int) (hz:z=(j:Int)) (hx:a.eval x=.pointer (some ⟨g,0,none⟩)) (hii:a.eval i=.int k z) (W:World):(execOp a.eval o).run P W=.ok (.value (.pointer (some ⟨g,j,none⟩))) W:=by
 subst hz
 have hel:P.elem t=e:=by simp [Program.elem,ht]
 have hal:P.arrayLen t=n:=by simp [Program.arrayLen,ht]
 have h:=run_indexAt_array W t ⟨g,0,none⟩ k (j:Int) (P:=P) (by rw [hel,hal];exact ht)
 unfold execOp
 simp only [ho,hx,hii,Sem.run_bind,Sem.run_pure,h,hel,hal]
 rw[if_pos ⟨by omega,by omega⟩]
 simp [sizeOf,typeInfo,hi,hsz,Result.andThen,qXZ]
theorem qZU {P:Program} {o:Oper} {a:Act} (t:TypeId) (x i:Operand) (ho:o.op=.indexAddr t x i) (e:Nat) (ht:P.underlying t=some (.slice e)) {ti:TypeInfo} (hi:P.info? e=some ti) (hsz:ti.size=1)
  (b off n c j:Nat) (hj:j<n) (k:IntKind) (z:Int) (hz:z=(j:Int)) (hx:a.eval x=.slice (some ⟨b,off,none⟩) n c) (hii:a.eval i=.int k z) (W:World):(execOp a.eval o).run P W=.ok (.value (.pointer (some ⟨b,off+j,none⟩))) W:=by
 subst hz
 have hel:P.elem t=e:=by simp [Program.elem,ht]
 have h:=run_indexAt_slice W t ⟨b,off,none⟩ n c k (j:Int) (P:=P) (by rw [hel];exact ht)
 unfold execOp
 simp only [ho,hx,hii,Sem.run_bind,Sem.run_pure,h,hel]
 rw[if_pos ⟨by omega,by omega⟩]
 simp [sizeOf,typeInfo,hi,hsz,Result.andThen,qXZ]
theorem qQq {P:Program} {o:Oper} {a:Act} (t:TypeId) (x:Operand) (ho:o.op=.load t x) (d:TypeDesc) (ht:P.underlying t=some d) (hd:(match d with | .struct _ | .array _ _=>false|_=>true)=true)
  {p:Addr} {v:Value} (hx:a.eval x=.pointer (some p)) {W:World} (hc:W.cell? p=some v):(execOp a.eval o).run P W=.ok (.value v) W:=by
 unfold execOp
 have hagg:(isAgg t).run P W=.ok false W:=by
  cases d<;>simp_all [isAgg,run_underlying ht,Result.andThen]
 simp only [ho,hx,Instr.loadAt,Instr.sureAddr,Sem.run_bind,Sem.run_pure,Result.andThen_ok,loadVar,hagg]
 simp [hc,Result.andThen]
theorem qWX (l l':List UInt8):strB l++strB l'=strB (l++l'):=by
 apply ByteArray.ext
 rw[ByteArray.data_append]
 simp [strB]
theorem qQW {P:Program} {o:Oper} {a:Act} (t t2:TypeId) (x y:Operand) (ho:o.op=.binOp .add t x y t2) (l l':List UInt8) (hx:a.eval x=.string (strB l)) (hy:a.eval y=.string (strB l')) (hl:l.length+l'.length≤4611686018427387903) (W:World) :
  (execOp a.eval o).run P W=.ok (.value (.string (strB (l++l')))) W:=by
 unfold execOp
 have h1:¬(9223372036854775807<(strB l).size+(strB l').size):=by rw [qQH,qQH];omega
 have h2:(binOp .add t (.string (strB l)) (.string (strB l'))).run P W=.ok (.string (strB l++strB l')) W:=by
  go_simp
 simp only [ho,hx,hy,eqGuard_add,Sem.run_bind,Sem.run_pure,h2,Result.andThen_ok,qWX]
def RdV (w:World) (A:Option Addr) (l:List Value):Prop:=∀j v,l[j]?=some v→∃b o,A=some ⟨b,o,none⟩∧w.cell? ⟨b,o+j,none⟩=some v
theorem RdV.grown {w w':World} {A:Option Addr} {l:List Value} {r:Option Nat} (h:RdV w A l) (hg:w.grownBy w' r) (hne:∀g,r=some g→Off A g):RdV w' A l:=by
 intro j v hj
 obtain⟨b,o,e,hc⟩:=h j v hj
 exact⟨b,o,e,hg.cell hc (fun er=>hne b er.symm _ e rfl)⟩
theorem RdV.below {w w':World} {A:Option Addr} {l:List Value} {B:Nat} (h:RdV w A l) (hb:Below B w w') (hlt:∀a,A=some a→a.block<B):RdV w' A l:=by
 intro j v hj
 obtain⟨b,o,e,hc⟩:=h j v hj
 exact⟨b,o,e,(hb.cell (p:=⟨b,o+j,none⟩) (hlt ⟨b,o,none⟩ e)).trans hc⟩
theorem RdV.keep {w w':World} {A:Option Addr} {l:List Value} (h:RdV w A l) (hb:Below w.heap.size w w'):RdV w' A l:=by
 intro j v hj
 obtain⟨b,o,e,hc⟩:=h j v hj
 exact⟨b,o,e,(hb.cell (p:=⟨b,o+j,none⟩) (World.block_lt_of_cell? _ _ hc)).trans hc⟩
theorem RdV.nil (w:World) (A:Option Addr):RdV w A []:=fun j v hj=>by simp at hj
theorem RdV.row {w:World} {g:Nat} {l:List Value} {t:TypeId} {fr:Nat×Nat} (h:w.heap[g]?=some (.cells l.toArray t fr)):RdV w (some ⟨g,0,none⟩) l:=fun j v hj=>
 ⟨g,0,rfl,by rw [Nat.zero_add];exact qQg h j (by simpa using hj)⟩
theorem RdV.one {w:World} {b:Nat} {v:Value} (h:w.cell? ⟨b,0,none⟩=some v):RdV w (some ⟨b,0,none⟩) [v]:=by
 intro j u hj
 obtain rfl:j=0:=by have:=(List.getElem?_eq_some_iff.1 hj).1;simp at this;omega
 obtain rfl:v=u:=by simpa using hj
 exact⟨b,0,rfl,h⟩
theorem RdB.toV {w:World} {A:Option Addr} {l:List UInt8} (h:RdB w A l):RdV w A (B8 l):=by
 intro j v hj
 have h1:j<l.length:=by
  have:=(List.getElem?_eq_some_iff.1 hj).1
  rwa [qQt]at this
 obtain⟨b,o,e,hc⟩:=h j h1
 rw[qV3 _ _ h1]at hj
 cases hj
 exact⟨b,o,e,hc⟩
def OwnV (w:World) (base:Nat) (e:TypeId) (v:Value) (l:List Value):Prop:=w.ownsRow base e 1 v l.length l
theorem OwnV.read {w:World} {base:Nat} {e:TypeId} {v:Value} {l:List Value} (h:OwnV w base e v l) :
  ∃A c,v=.slice A l.length c∧RdV w A l∧l.length≤c∧c≤9223372036854775807∧∀a,A=some a→base≤a.block∧a.block<w.heap.size:=by
 have h':=h
 rcases h'.2 with ⟨hv,hn⟩|⟨g,cap,cur,hv,hb,hh,hnc,hcm,hcs,_⟩
 ·exact⟨none,0,by rw [hv,hn],fun j v hj=>by have:=(List.getElem?_eq_some_iff.1 hj).1;omega,by omega,by omega,fun a e=>by cases e⟩
 ·refine⟨_,cap,hv,fun j u hj=>⟨g,0,rfl,?_⟩,hnc,by simpa [maxLen]using hcm,fun a e=>by cases e;exact⟨hb,qQe hh⟩⟩
  have:=h.cells (g:=g) (by rw [hv];rfl) j _ hj
  rwa [qXZ]at this
theorem OwnV.nil (w:World) (base:Nat) (e:TypeId):OwnV w base e (.slice none 0 0) []:=World.ownsRow_nil _ _ _ _
theorem OwnV.alloc {w:World} {base:Nat} {e:TypeId} {v:Value} {l:List Value} (h:OwnV w base e v l) (o:Obj):OwnV (w.alloc o) base e v l:=World.ownsRow.alloc h o
theorem OwnV.drew {w:World} {base:Nat} {e:TypeId} {v:Value} {l:List Value} (h:OwnV w base e v l):OwnV w.drew base e v l:=World.ownsRow.drew h
theorem OwnV.lt {w:World} {base:Nat} {e:TypeId} {v:Value} {l:List Value} (h:OwnV w base e v l):∀k,v.ownBlock=some k→base≤k∧k<w.heap.size:=World.ownsRow.lt h
theorem OwnV.grown {w w':World} {base:Nat} {e:TypeId} {v:Value} {l:List Value} {r:Option Nat} (h:OwnV w base e v l) (hg:w.grownBy w' r) (hne:v.ownBlock=none∨v.ownBlock≠r):OwnV w' base e v l:=World.ownsRow.kept h hg hne
theorem OwnV.below {w w':World} {base:Nat} {e:TypeId} {v:Value} {l:List Value} (h:OwnV w base e v l) (hb:Below w.heap.size w w'):OwnV w' base e v l:=h.grown (qQJ hb) (by cases v.ownBlock<;>simp)
theorem OwnV.mono {w:World} {base base':Nat} {e:TypeId} {v:Value} {l:List Value} (h:OwnV w base e v l) (hb:base'≤base):OwnV w base' e v l:=by
 refine⟨h.1,?_⟩
 rcases h.2 with h2|⟨g,cap,cur,hv,hg,r⟩
 ·exact .inl h2
 ·exact .inr ⟨g,cap,cur,hv,kQk hb hg,r⟩
structure SlT (P:Program) (t e:TypeId) (z:Value) (b:Nat):Prop where
 ht:P.underlying t=some (.slice e)
 hinfo:(P.info? e).map (fun i=>(i.zero,i.size,i.bytes))=some (some z,1,b)
 hz:z.cells.size=1
theorem run_appV {P:Program} {t e:TypeId} {z:Value} {bt:Nat} (T:SlT P t e z bt) (ty:TypeId) (W:World) (base:Nat) (v:Value) (l ys:List Value) (A:Option Addr) (m c:Nat) (hm:ys.length=m) (HO:OwnV W base e v l) (HR:RdV W A ys) (h1:∀u∈ys,u.oneCell'=true)
  (hbase:base≤W.heap.size) (hl:l.length+m≤9223372036854775807) (hl2:(l.length+m)*bt≤140737488355328) :
  ∃v1 w1,(Builtin.append_ #[t,t] ty #[v,.slice A m c]).run P W=.ok v1 w1∧OwnV w1 base e v1 (l++ys)∧W.grownBy w1 v.ownBlock∧(v1.ownBlock=v.ownBlock∨v1.ownBlock=some W.heap.size):=by
 obtain⟨i0,hi,hzz⟩:=Option.map_eq_some_iff.1 T.hinfo
 simp only [Prod.mk.injEq]at hzz
 obtain⟨hz0,hz1,hz2⟩:=hzz
 have ht:=T.ht
 subst hm
 rcases ys with _|⟨y,r⟩
 ·rcases A with _|ad
  ·refine⟨v,W,?_,by simpa using HO,World.grownBy.refl W _,.inl rfl⟩
   rcases HO.2 with ⟨rfl,hn⟩|⟨g,cap,cur,rfl,_,_,hnc,_⟩
   ·simp [Builtin.append_,run_underlying ht,sizeOf,typeInfo,hi,Builtin.lenOf,Builtin.firstCells]
   ·simp [Builtin.append_,run_underlying ht,sizeOf,typeInfo,hi,Builtin.lenOf,Builtin.firstCells,hnc,storeCells]
  ·obtain⟨v1,w1,hr,h2,h3,_,h5⟩:=run_append_own_at (P:=P) W base t ty e i0 z 1 bt ht hi hz0 hz1 hz2 T.hz (by omega) v l.length l HO ad 0 c [] (by simp) (by simp) (by simp) (by simpa [maxLen]using hl) (by simpa using hl2) hbase
   exact⟨v1,w1,hr,by simpa [OwnV]using h2,h3,h5⟩
 ·obtain⟨b,o,rfl,_⟩:=HR 0 y (by simp)
  obtain⟨v1,w1,hr,h2,h3,_,h5⟩:=run_append_own_at (P:=P) W base t ty e i0 z 1 bt ht hi hz0 hz1 hz2 T.hz (by omega) v l.length l HO ⟨b,o,none⟩ (y::r).length c (y::r) (by simp)
   (fun j u hu=>by
    obtain⟨b',o',e',hc'⟩:=HR j u hu
    injection e' with e'
    injection e' with e1 e2
    subst e1 e2
    rw[qXZ,hc']) h1 (by simpa [maxLen]using hl) hl2 hbase
  refine⟨v1,w1,hr,?_,h3,h5⟩
  rw[OwnV,kQj]
  exact h2
section
variable {P:Program} {ops:Array Oper} {rest:List Oper} {o:Oper} {a:Act} {Q:Exit→Act→World→Prop} {K:Act→World→Prop} {E:Prop} {t e:TypeId} {z:Value} {bt:Nat}
theorem appV_wp (T:SlT P t e z bt) (s x:Operand) (ho:o.op=.call { callee:=.builtin .append,args:=#[s,x],argTypes:=#[t,t] }) {W:World}
  (base:Nat) (v:Value) (l ys:List Value) (A:Option Addr) (m c:Nat) (hs:a.eval s=v) (hx:a.eval x=.slice A m c) (hm:ys.length=m) (HO:OwnV W base e v l) (HR:RdV W A ys) (h1:∀u∈ys,u.oneCell'=true) (hbase:base≤W.heap.size) (hl:l.length+m≤9223372036854775807) (hl2:(l.length+m)*bt≤140737488355328)
  (h:∀v1 w1,OwnV w1 base e v1 (l++ys)→W.grownBy w1 v.ownBlock→(v1.ownBlock=v.ownBlock∨v1.ownBlock=some W.heap.size)→K (a.put o.dst v1) w1):o.wp P a W K Q:=by
 obtain⟨v1,w1,hr,h2,h3,h5⟩:=run_appV T o.type W base v l ys A m c hm HO HR h1 hbase hl hl2
 unfold Oper.wp execOp
 simp only [ho,resolve,invoke,builtin,Sem.run_bind,Sem.run_pure,Result.andThen_ok,kQs,kQw,List.map_nil,hs,hx,hr]
 exact h v1 w1 h2 h3 h5
theorem qZp (hgd:o.guard=none) (T:SlT P t e z bt) (s x:Operand) (ho:o.op=.call { callee:=.builtin .append,args:=#[s,x],argTypes:=#[t,t] }) {W:World}
  (base:Nat) (v:Value) (l ys:List Value) (A:Option Addr) (m c:Nat) (hs:a.eval s=v) (hx:a.eval x=.slice A m c) (hm:ys.length=m) (HO:OwnV W base e v l) (HR:RdV W A ys) (h1:∀u∈ys,u.oneCell'=true) (hbase:base≤W.heap.size) (hl:l.length+m≤9223372036854775807) (hl2:(l.length+m)*bt≤140737488355328)
  (h:∀v1 w1,OwnV w1 base e v1 (l++ys)→W.grownBy w1 v.ownBlock→(v1.ownBlock=v.ownBlock∨v1.ownBlock=some W.heap.size)→wpList P ops Q rest (a.put o.dst v1) w1):wpList P ops Q (o::rest) a W:=
 wpList_plain hgd fun _ hK=>appV_wp T s x ho base v l ys A m c hs hx hm HO HR h1 hbase hl hl2 (fun v1 w1 h1 h2 h3=>hK _ _ (h v1 w1 h1 h2 h3))
end
inductive All2 {α β:Type} (R:α→β→Prop):List α→List β→Prop
 | nil:All2 R [] []
 | cons {a b ks bs}:R a b→All2 R ks bs→All2 R (a::ks) (b::bs)
theorem All2.length {α β:Type} {R:α→β→Prop} {ks:List α} {bs:List β} (h:All2 R ks bs):ks.length=bs.length:=by
 induction h with
 | nil=>rfl
 | cons _ _ ih=>simp [ih]
theorem All2.mono {α β:Type} {R R':α→β→Prop} {ks:List α} {bs:List β} (h:All2 R ks bs) (hr:∀a b,R a b→R' a b):All2 R' ks bs:=by
 induction h with
 | nil=>exact .nil
 | cons h1 _ ih=>exact .cons (hr _ _ h1) ih
theorem All2.snoc {α β:Type} {R:α→β→Prop} {ks:List α} {bs:List β} (h:All2 R ks bs) {a:α} {b:β} (hab:R a b):All2 R (ks++[a]) (bs++[b]):=by
 induction h with
 | nil=>exact .cons hab .nil
 | cons h1 _ ih=>exact .cons h1 ih
theorem All2.get {α β:Type} {R:α→β→Prop} {ks:List α} {bs:List β} (h:All2 R ks bs) (j:Nat) (b:β) (hb:bs[j]?=some b):∃a,ks[j]?=some a∧R a b:=by
 induction h generalizing j with
 | nil=>simp at hb
 | cons h1 _ ih=>
  cases j with
  | zero=>simp at hb;subst hb;exact⟨_,rfl,h1⟩
  | succ j=>simpa using ih j (by simpa using hb)
theorem _root_.Go.World.grownBy.mono_none {w w':World} {r:Option Nat} (h:w.grownBy w' none):w.grownBy w' r:=⟨h.os,h.tape,h.output,h.size,fun k hk _=>h.block k hk (by simp)⟩
section
variable {P:Program} {ops:Array Oper} {rest:List Oper} {o:Oper} {a:Act} {Q:Exit→Act→World→Prop} {W:World}
theorem qQa {v:Value} (hg:o.guard=none) (hy:(execOp a.eval o).run P W=.ok (.value v) W) (h:wpList P ops Q rest (a.put o.dst v) W):wpList P ops Q (o::rest) a W:=
 wpList_plain hg fun K hK=>by
  unfold Oper.wp
  rw[hy]
  exact hK _ _ h
theorem qQl {v:Value} (hw:Region.wanted o (yielded ops a.tmps)=true) (hy:(execOp a.eval o).run P W=.ok (.value v) W) (h:wpList P ops Q rest (a.put o.dst v) W):wpList P ops Q (o::rest) a W:=by
 unfold wpList
 rw[if_pos hw]
 refine .inl ?_
 unfold Oper.wp
 rw[hy]
 exact h
theorem qQs (hg:o.guard=none) (h:∀K:Act→World→Prop,Hid (∀a w,wpList P ops Q rest a w→K a w)→o.wp P a W K Q):wpList P ops Q (o::rest) a W:=
 wpList_plain hg fun K hK=>h K hK
theorem qY7 (t:TypeId) (x l:Operand) (ho:o.op=.slice t x (some l) none none) (n e:Nat) (ht:P.underlying t=some (.array n e)) {i:TypeInfo} (hi:P.info? e=some i) (hsz:i.size=1) (k:IntKind) (g off lo:Nat) (h3:lo<n) (z:Int) (hz:z=(lo:Int))
  (hx:a.eval x=.pointer (some ⟨g,off,none⟩)) (hl:a.eval l=.int k z) (W:World):(execOp a.eval o).run P W=.ok (.value (.slice (some ⟨g,off+lo,none⟩) (n-lo) (n-lo))) W:=
 qVm t x l ho n e ht hi hsz k g off lo h3 hx (by rw [hl,hz]) W
theorem qWY (g:Nat) (t:TypeId):∀(vs:List Value) (o:Nat) (w:World) (cur:Array Value),w.heap[g]?=some (.cells cur t (0,0))→o+vs.length≤cur.size→
  (w.setCells g o vs).heap[g]?=some (.cells (cur.toList.take o++(vs++cur.toList.drop (o+vs.length))).toArray t (0,0))
 | [],o,w,cur,h,_=>by simpa [World.setCells]using h
 | v::r,o,w,cur,h,hl=>by
  simp only [List.length_cons]at hl
  rw[World.setCells]
  have h1:=qWY g t r (o+1) (w.setCell ⟨g,o,none⟩ v) (cur.setIfInBounds o v) (heap_setCell_same w g o cur t v h) (by simp;omega)
  rw[h1]
  congr 3
  have ho:o<cur.toList.length:=by simp;omega
  have hx:(cur.setIfInBounds o v).toList=cur.toList.set o v:=by simp
  have e1:(cur.toList.set o v).take (o+1)=cur.toList.take o++[v]:=by
   rw[List.take_add_one,List.getElem?_set_self ho,List.take_set_of_le (kQh _)];rfl
  have e2:(cur.toList.set o v).drop (o+1+r.length)=cur.toList.drop (o+(v::r).length):=by
   rw[List.drop_set_of_lt (by omega)]
   simp [Nat.add_assoc,Nat.add_comm 1]
  rw[hx,e1,e2]
  simp
theorem qWy (g:Nat):∀(vs:List Value) (o:Nat) (w:World),w.grownBy (w.setCells g o vs) (some g)
 | [],_,w=>World.grownBy.refl _ _
 | v::r,o,w=>by
  rw[World.setCells]
  exact World.grownBy.trans (qQF (World.grownBy.refl _ _) _ _) (qWy g r (o+1) _)
theorem qJr (g:Nat):∀(vs:List Value) (o:Nat) (w:World),(w.setCells g o vs).heap.size=w.heap.size
 | [],_,w=>rfl
 | v::r,o,w=>by
  rw[World.setCells,qJr g r]
  simp [World.setCell]
theorem qKI {K:Act→World→Prop} (ty:TypeId) (x y:Operand) (ho:o.op=.store ty x y) (g off:Nat) (cells:Array Value) (hx:a.eval x=.pointer (some ⟨g,off,none⟩)) (hy:a.eval y=.agg cells)
  (cur:Array Value) (t:TypeId) (hg:W.heap[g]?=some (.cells cur t (0,0))) (hi:(P.info? ty).map (·.size)=some cells.size) (hl:off+cells.size≤cur.size) (h1:cells.all (·.oneCell')=true)
  (h:∀w',w'.heap[g]?=some (.cells (cur.toList.take off++(cells.toList++cur.toList.drop (off+cells.size))).toArray t (0,0))→W.grownBy w' (some g)→w'.heap.size=W.heap.size→K (a.put o.dst undef) w'):o.wp P a W K Q:=
 wp_store_mid ty x y ho g off cells hx hy (fun j hj=>⟨by
   have:(cur[off+j]?).isSome=true:=by simp;omega
   obtain⟨v,hv⟩:=Option.isSome_iff_exists.1 this
   rw[qQg hg (off+j) hv];rfl,qQz hg _⟩) hi h1
  (h _ (by have:=qWY g t cells.toList off W cur hg (by simpa using hl);simpa using this) (qWy g _ _ _) (qJr g _ _ _))
theorem qXr (hgd:o.guard=none) (ty:TypeId) (x y:Operand) (ho:o.op=.store ty x y) (g off:Nat) (cells:Array Value) (hx:a.eval x=.pointer (some ⟨g,off,none⟩)) (hy:a.eval y=.agg cells)
  (cur:Array Value) (t:TypeId) (hg:W.heap[g]?=some (.cells cur t (0,0))) (hi:(P.info? ty).map (·.size)=some cells.size) (hl:off+cells.size≤cur.size) (h1:cells.all (·.oneCell')=true)
  (h:∀w',w'.heap[g]?=some (.cells (cur.toList.take off++(cells.toList++cur.toList.drop (off+cells.size))).toArray t (0,0))→W.grownBy w' (some g)→w'.heap.size=W.heap.size→wpList P ops Q rest (a.put o.dst undef) w'):wpList P ops Q (o::rest) a W:=
 wpList_plain hgd fun _ hK=>qKI ty x y ho g off cells hx hy cur t hg hi hl h1 (fun w' h1 h2 h3=>hK _ _ (h w' h1 h2 h3))
theorem cut_max {P:Program} (t e:TypeId) {i:TypeInfo} (ht:P.underlying t=some (.slice e)) (hi:P.info? e=some i) (hsz:i.size=1) (A:Option Addr) (n c m:Nat) (hm:m≤c) (W:World) :
  (Instr.slice t (.slice A n c) none (some (.int .i64 (m:Int))) (some (.int .i64 (m:Int)))).run P W=.ok (.slice A m m) W:=by
 have hel:P.elem t=e:=by simp [Program.elem,ht]
 have hu:P.underlying t=some (.slice (P.elem t)):=by rw [hel];exact ht
 rw[run_slice_hm W t A n c hu .i64 .i64 (m:Int) (m:Int) (Int.natCast_nonneg _) (Int.le_refl _) (by omega),hel]
 simp only [sizeOf,typeInfo,hi,hsz,sliced,Result.andThen]
 rcases A with _|⟨b,o,sp⟩
 ·simp [Sem.run_pure,hi,hsz,Result.andThen]
 ·simp [Sem.run_pure,hi,hsz,Result.andThen,Addr.add]
  try (cases sp<;>simp)
theorem qWK (t:TypeId) (x:Operand) (ho:o.op=.sliceToArrayPointer t x) (n e:Nat) (ht:P.underlying t=some (.array n e)) (A:Option Addr) (len c:Nat) (hx:a.eval x=.slice A len c) (hle:n≤len) (W:World):(execOp a.eval o).run P W=.ok (.value (.pointer A)) W:=by
 have h1:¬len<n:=by omega
 unfold execOp
 simp only [ho,hx,Instr.arrayAt,Sem.run_bind,Sem.run_pure,run_underlying ht,Result.andThen_ok]
 simp [h1]
theorem appg_list (hgd:o.guard=none) (T:qXA P) (s x:Operand) (ho:o.op=.call { callee:=.builtin .append,args:=#[s,x],argTypes:=#[22,22] }) {W:World}
  (A:Option Addr) (n c:Nat) (l ys:List UInt8) (Ax:Addr) (m cx:Nat) (hs:a.eval s=.slice A n c) (hx:a.eval x=.slice (some Ax) m cx) (hn:l.length=n) (hm:ys.length=m) (hnone:A=none→n=0∧c=0) (HS:RdB W A l) (HR:RdB W (some Ax) ys) (hfull:c<n+m) (hl:n+m≤140737488355328)
  (h:∀v1 w1,OwnB w1 W.heap.size v1 (l++ys)→W.grownBy w1 none→wpList P ops Q rest (a.put o.dst v1) w1):wpList P ops Q (o::rest) a W:=by
 obtain⟨i0,hi,hzz⟩:=Option.map_eq_some_iff.1 T.hinfo
 simp only [Prod.mk.injEq]at hzz
 obtain⟨hz0,hz1,hz2⟩:=hzz
 have rd:∀(ad:Addr) (l:List UInt8),RdB W (some ad) l→∀j u,(B8 l)[j]?=some u→W.cell? (ad.add j)=some u:=by
  intro ad l hl j u hu
  have hj:j<l.length:=by
   have:=(List.getElem?_eq_some_iff.1 hu).1
   rwa [qQt]at this
  obtain⟨b',o',e',hc'⟩:=hl j hj
  injection e' with e'
  subst e'
  rw[qXZ,hc',←qV3 _ j hj,hu]
 refine wpList_append_grows W hgd s x 22 ho 5 i0 (.int .u8 0) 1 1 T.ht hi hz0 hz1 hz2 rfl (by omega) A n c (B8 l) hs hnone (by rw [qQt,hn,Nat.mul_one]) (fun b eb=>rd b l (eb ▸ HS)) Ax m cx (B8 ys) hx (by rw [qQt,hm,Nat.mul_one]) (rd Ax ys HR) (B8_one _) hfull (by unfold maxLen;omega) (by omega) ?_
 intro v' w' ho' hg'
 refine h v' w' ?_ hg'
 rw[OwnB,kQj,hn,hm,qWU]
 exact ho'
theorem copyB_wp {K:Act→World→Prop} (T:qXA P) (d s:Operand) (ho:o.op=.call { callee:=.builtin .copy,args:=#[d,s],argTypes:=#[22,22] })
  (g off dLen dCap:Nat) (A:Option Addr) (sLen sCap:Nat) (hd:a.eval d=.slice (some ⟨g,off,none⟩) dLen dCap) (hs:a.eval s=.slice A sLen sCap) (cur:Array Value) (t:TypeId) (hg:W.heap[g]?=some (.cells cur t (0,0)))
  (src:List UInt8) (hl:src.length=sLen) (hR:RdB W A src) (h0:0<sLen) (m:Nat) (hm:m=Nat.min sLen dLen) (hfit:off+m≤cur.size)
  (h:∀w',w'.heap[g]?=some (.cells (cur.toList.take off++(B8 (src.take m)++cur.toList.drop (off+m))).toArray t (0,0))→W.grownBy w' (some g)→w'.heap.size=W.heap.size→K (a.put o.dst (.int .i64 (m:Int))) w'):o.wp P a W K Q:=by
 obtain⟨b,o',rfl,_⟩:=hR 0 (by omega)
 have hms:m≤sLen:=by rw [hm];exact Nat.min_le_left _ _
 have hcl:(B8 (src.take m)).length=m:=by rw [qQt,kQp];omega
 have hsz:(P.info? 5).map (·.size)=some 1:=by
  have:=T.hinfo
  revert this
  cases P.info? 5<;>simp<;>intros<;>assumption
 have hrun:=run_copy_row (P:=P) W 22 22 o.type 5 g off dLen dCap ⟨b,o',none⟩ sLen sCap cur t (B8 (src.take m)) T.ht hsz hg (by rw [hcl,hm]) (by
   intro j u hu
   have hj:j<m:=by
    have:=(List.getElem?_eq_some_iff.1 hu).1
    rwa [hcl]at this
   obtain⟨b',o'',e',hc'⟩:=hR j (by omega)
   injection e' with e'
   injection e' with e1 e2
   subst e1 e2
   rw[qV3 _ j (by rw [kQp];omega)]at hu
   rw[qXZ,hc',←hu,kQa,kQa,List.getElem?_take,if_pos hj]) (by rw [hcl];exact hfit) (B8_one _)
 unfold Oper.wp execOp
 simp only [ho,resolve,invoke,builtin,Sem.run_bind,Sem.run_pure,Result.andThen_ok,kQs,kQw,List.map_nil,hd,hs,hrun]
 rw[hcl]
 have e:(cur.toList.take off++B8 (src.take m)++cur.toList.drop (off+m)).toArray=(cur.toList.take off++(B8 (src.take m)++cur.toList.drop (off+m))).toArray:=by rw [List.append_assoc]
 rw[e]
 exact h _ (setRow_heap W g _ _ t _ hg) ⟨rfl,rfl,rfl,by simp,fun k hk hne=>setRow_other W g k _ (fun e=>hne (by rw [e]))⟩ (by simp)
def qXF (L:List UInt8) (j:Nat):List UInt8:=L.take j++kQc (L.length-j) 0
theorem qZV (L:List UInt8) (j:Nat):(qXF L j).length=L.length:=by simp [qXF];omega
theorem qX3 (L:List UInt8):qXF L 0=kQc L.length 0:=by simp [qXF]
theorem qX4 (L:List UInt8):qXF L L.length=L:=by simp [qXF]
theorem qWN (L:List UInt8) (j:Nat) (h:j<L.length):(qXF L j).set j (L.getD j 0)=qXF L (j+1):=by
 apply List.ext_getElem
 ·simp [qZV]
 ·intro i h1 h2
  rw[qZV]at h2
  simp only [qXF,List.getElem_set,List.getElem_append,kQp,List.getElem_take,List.getElem_replicate]
  by_cases e:j=i
  ·subst e
   rw[if_pos rfl,dif_pos (by omega)]
   simp [kQa,h]
  ·rw [if_neg e]
   by_cases h3:i<j
   ·rw [dif_pos (by omega),dif_pos (by omega)]
   ·rw [dif_neg (by omega),dif_neg (by omega)]
theorem _root_.Go.Proofs.YtlocplkjokoknaaGreat.RdB.lt {w:World} {A:Option Addr} {l:List UInt8} (h:RdB w A l) (h0:l≠[]):∀a,A=some a→a.block<w.heap.size:=by
 intro a ea
 obtain⟨b,o,e,hc⟩:=h 0 (List.length_pos_iff.2 h0)
 rw[e]at ea
 cases ea
 exact World.block_lt_of_cell? _ _ hc
theorem _root_.Go.Proofs.YtlocplkjokoknaaGreat.RdB.keep {w w':World} {A:Option Addr} {l:List UInt8} (h:RdB w A l) (hb:Below w.heap.size w w'):RdB w' A l:=by
 by_cases h0:l=[]
 ·subst h0;exact RdB.nil _ _
 ·exact h.below hb (h.lt h0)
theorem _root_.Go.Proofs.YtlocplkjokoknaaGreat.RdB.grow {w w':World} {A:Option Addr} {l:List UInt8} {g:Nat} (h:RdB w A l) (hg:w.grownBy w' (some g)) (hne:l≠[]→∀a,A=some a→a.block≠g):RdB w' A l:=by
 by_cases h0:l=[]
 ·subst h0;exact RdB.nil _ _
 ·exact h.grown hg (fun g' e a ea=>by cases e;exact hne h0 a ea)
def SlB (w:World) (v:Value) (l:List UInt8):Prop:=∃A c,v=.slice A l.length c∧l.length≤c∧RdB w A l
end
theorem qJq (l l':List UInt8):((strB l).toList==(strB l').toList)=decide (l=l'):=by
 rw[ByteArray.toList_eq,ByteArray.toList_eq]
 simp only [strB]
 by_cases h:l=l'<;>simp [h]
theorem qXC {P:Program} {o:Oper} {a:Act} (t t2:TypeId) (x y:Operand) (ho:o.op=.binOp .eql t x y t2) (l l':List UInt8) (hx:a.eval x=.string (strB l)) (hy:a.eval y=.string (strB l')) (W:World):(execOp a.eval o).run P W=.ok (.value (.bool (decide (l=l')))) W:=by
 have h2:(binOp .eql t (.string (strB l)) (.string (strB l'))).run P W=.ok (.bool ((strB l).toList==(strB l').toList)) W:=by go_simp
 unfold execOp
 simp only [ho,hx,hy,Sem.run_bind,Sem.run_pure,h2,Result.andThen_ok,qJq]
 go_simp
 rw[qJq]
theorem qXI {w W W':World} {v:Value} {l:List UInt8} (h:Below w.heap.size w W) (ho:OwnB W w.heap.size v l) (hg:W.grownBy W' v.ownBlock):Below w.heap.size w W':=h.trans (qQi hg h.size (fun g e=>(ho.lt g e).1))
theorem built_one {w W W':World} {NB:Nat} {x:UInt8} (hw:W.alloc (.cells #[.int .u8 (x.toNat:Int)] 5)=W') (hB:W.heap.size=NB) (hb:Below w.heap.size w W):RdB W' (some ⟨NB,0,none⟩) [x]∧Below w.heap.size w W'∧Below W.heap.size W W':=by
 subst hw hB
 exact⟨RdB.one (qQg (fr:=(0,0)) (qQk _ _ _ rfl) 0 rfl),hb.alloc hb.size _,(Below.refl _ _).alloc (kQh _) _⟩
theorem qQh (w:World) (o:Obj):Below w.heap.size w (w.alloc o):=(Below.refl _ _).alloc (kQh _) _
theorem qZx {P:Program} {o:Oper} {a:Act} (t t2:TypeId) (x y:Operand) (ho:o.op=.binOp .eql t x y t2) (l l':List UInt8) (h:l=l') (hx:a.eval x=.string (strB l)) (hy:a.eval y=.string (strB l')) (W:World):(execOp a.eval o).run P W=.ok (.value (.bool true)) W:=by
 have:=qXC (P:=P) t t2 x y ho l l' hx hy W
 rwa [decide_eq_true h]at this
theorem built_rows {W W':World} {NB:Nat} {vs:Array Value} (hw:W.alloc (.cells vs 22)=W') (hB:W.heap.size=NB):RdV W' (some ⟨NB,0,none⟩) vs.toList∧Below W.heap.size W W':=by
 subst hw hB
 exact⟨RdV.row (t:=22) (fr:=(0,0)) (qQk _ _ _ rfl),qQh _ _⟩
theorem qJi (w:World) (a:Addr) (n:Nat):(w.freeze a n).os=w.os∧(w.freeze a n).tape=w.tape∧(w.freeze a n).output=w.output:=by
 unfold World.freeze
 split<;>exact⟨rfl,rfl,rfl⟩
theorem bytesWorld_os (w:World) (e:TypeId) (s:ByteArray):(Lib.bytesWorld w e s).os=w.os:=(qJi _ _ _).1
theorem qYe (w:World) (e:TypeId) (s:ByteArray):(Lib.bytesWorld w e s).tape=w.tape:=(qJi _ _ _).2.1
theorem qJ7 (w:World) (e:TypeId) (s:ByteArray):(Lib.bytesWorld w e s).output=w.output:=(qJi _ _ _).2.2
theorem qXo {P:Program} {o:Oper} {a:Act} (t t2:TypeId) (x y:Operand) (ho:o.op=.binOp .neq t x y t2) (l l':List UInt8) (h:l=l') (hx:a.eval x=.string (strB l)) (hy:a.eval y=.string (strB l')) (W:World):(execOp a.eval o).run P W=.ok (.value (.bool false)) W:=by
 have e:((strB l).toList==(strB l').toList)=true:=by rw [qJq];simpa using h
 unfold execOp
 simp only [ho,hx,hy,Sem.run_bind,Sem.run_pure]
 go_simp
theorem bytes_wp {P:Program} {o:Oper} {a:Act} {Q:Exit→Act→World→Prop} {W:World} {K:Act→World→Prop} (src dst e:TypeId) (x:Operand) (ho:o.op=.convert src dst x) {u:TypeDesc} (hs:P.underlying src=some u) (hd:P.underlying dst=some (.slice e)) (he:P.underlying e=some (.int .u8))
  (l:List UInt8) (hx:a.eval x=.string (strB l))
  (h:∀w' c,RdB w' (some ⟨W.heap.size,0,none⟩) l→l.length≤c→Below W.heap.size W w'→w'.heap.size=W.heap.size+1→K (a.put o.dst (.slice (some ⟨W.heap.size,0,none⟩) l.length c)) w'):o.wp P a W K Q:=by
 have hrun:=Lib.run_convert_string_bytes (P:=P) W src dst e (strB l) hs hd he
 unfold Oper.wp execOp
 simp only [ho,hx,Sem.run_bind,Sem.run_pure,hrun,Result.andThen_ok]
 have hsz:(strB l).size=l.length:=qQH l
 rw[hsz]
 refine h _ _ (fun j hj=>⟨W.heap.size,0,rfl,?_⟩) (grownCap_ge _ _ _ _) ⟨?_,?_,?_,?_,?_⟩ (Lib.bytesWorld_size _ _ _)
 ·rw [Nat.zero_add,Lib.bytesWorld_cell W e (strB l) j (by rw [hsz];exact hj)]
  simp [strB,kQa,hj]
 ·exact bytesWorld_os _ _ _
 ·exact qYe _ _ _
 ·exact qJ7 _ _ _
 ·rw [Lib.bytesWorld_size];omega
 ·intro k hk
  exact Lib.bytesWorld_at_old W e (strB l) k hk
end Go.Proofs.YtlocplkjokoknaaGreat
namespace Go.Proofs.YtlocplkjokoknaaGreat
open Go.RowKit Go.WideShapes Go.ChangeShapes Go.MapKept
structure Ent where
 key:List UInt8
 beside:List UInt8
 text:List UInt8
def EntL (k b:List UInt8) (A:Option Addr) (n c:Nat):List Value:=B8 k++[.string (strB b),.slice A n c]
def EntV (k b:List UInt8) (A:Option Addr) (n c:Nat):Value:=.agg (EntL k b A n c).toArray
def OfB (W:World) (k:Nat):Prop:=∃cur fr,W.heap[k]?=some (.cells cur 5 fr)
theorem OfB.same {W W':World} {k:Nat} (h:OfB W k) (e:W'.heap[k]?=W.heap[k]?):OfB W' k:=by
 obtain⟨cur,fr,h1⟩:=h
 exact⟨cur,fr,e.trans h1⟩
theorem OfB.grown {W W':World} {k:Nat} {r:Option Nat} (h:OfB W k) (hg:W.grownBy W' r) (hr:some k≠r):OfB W' k:=by
 obtain⟨cur,fr,h1⟩:=h
 exact⟨cur,fr,qQd hg hr h1⟩
theorem OwnB.ofB {W:World} {base n c:Nat} {A:Option Addr} {l:List UInt8} (h:OwnB W base (.slice A n c) l):∀a,A=some a→OfB W a.block:=by
 rintro a rfl
 rcases h.2 with ⟨hv,_⟩|⟨g,cap,cur,hv,_,hh,_⟩
 ·cases hv
 ·cases hv
  exact⟨cur,_,hh⟩
def EntR (lo:Nat) (W:World) (x:MapEntry) (p:List UInt8×Ent):Prop:=
 x.key=.string (strB p.1)∧∃A c,x.val=EntV p.2.key p.2.beside A p.2.text.length c∧RdB W A p.2.text∧p.2.key.length=32∧p.2.text.length≤c∧∀a,A=some a→a.block<W.heap.size∧lo≤a.block∧OfB W a.block
structure MapB (lo b:Nat) (m:List (List UInt8×Ent)) (W:World):Prop where
 has:∃es clock,W.heap[b]?=some (.map es clock)∧Go.MapKept.Stamped es clock∧All2 (EntR lo W) es.toList m
 small:∀p∈m,p.1.length≤100000
 low:b<lo
theorem sLaw:Go.WideMaps.KeyLaw Tryz.prog 9:=Go.WideMaps.string_law Tryz.underlying9
theorem EntR.keep {lo:Nat} {W W':World} {x:MapEntry} {p:List UInt8×Ent} (h:EntR lo W x p) (hb:Below W.heap.size W W'):EntR lo W' x p:=by
 obtain⟨h1,A,c,h2,h3,h4,h5,h6⟩:=h
 exact⟨h1,A,c,h2,h3.keep hb,h4,h5,fun a e=>⟨kQb (h6 a e).1 hb.size,(h6 a e).2.1,(h6 a e).2.2.same (hb.block _ (h6 a e).1)⟩⟩
theorem MapB.keep {lo b:Nat} {m:List (List UInt8×Ent)} {W W':World} (h:MapB lo b m W) (hb:Below W.heap.size W W'):MapB lo b m W':=by
 obtain⟨es,clock,h1,h2,h3⟩:=h.has
 have hlt:b<W.heap.size:=by
  rcases Nat.lt_or_ge b W.heap.size with h|h
  ·exact h
  ·rw [Array.getElem?_eq_none h]at h1;cases h1
 exact⟨⟨es,clock,qQb hb hlt h1,h2,h3.mono fun a b h=>h.keep hb⟩,h.small,h.low⟩
theorem MapB.lt {lo b:Nat} {m:List (List UInt8×Ent)} {W:World} (h:MapB lo b m W):b<W.heap.size:=by
 obtain⟨es,clock,h1,_,_⟩:=h.has
 rcases Nat.lt_or_ge b W.heap.size with h|h
 ·exact h
 ·rw [Array.getElem?_eq_none h]at h1;cases h1
theorem key_ok (s:List UInt8) (hs:s.length≤100000):∃l,keyOf Tryz.prog 9 (.string (strB s))=some l:=
 ⟨_,Go.WideMaps.keyOf_string_mk Tryz.underlying9 (by rw [qQH];exact kQk hs (Nat.le_of_ble_eq_true (by kernel_rfl)))⟩
theorem All2.at {α β:Type} {R:α→β→Prop} {xs:List α} {ys:List β} (h:All2 R xs ys) (j:Nat) (a:α) (ha:xs[j]?=some a):∃b,ys[j]?=some b∧R a b:=by
 induction h generalizing j with
 | nil=>simp at ha
 | cons h1 _ ih=>
  cases j with
  | zero=>simp at ha;subst ha;exact⟨_,rfl,h1⟩
  | succ j=>simp at ha ⊢;exact ih j ha
theorem All2.mem {α β:Type} {R:α→β→Prop} {xs:List α} {ys:List β} (h:All2 R xs ys) (a:α) (ha:a∈xs):∃b,b∈ys∧R a b:=by
 obtain⟨j,hj,rfl⟩:=List.getElem_of_mem ha
 obtain⟨b,hb,hr⟩:=h.at j _ (kQi hj)
 exact⟨b,kQu hb,hr⟩
theorem All2.mem' {α β:Type} {R:α→β→Prop} {xs:List α} {ys:List β} (h:All2 R xs ys) (b:β) (hb:b∈ys):∃a,a∈xs∧R a b:=by
 obtain⟨j,hj,rfl⟩:=List.getElem_of_mem hb
 obtain⟨a,ha,hr⟩:=h.get j _ (kQi hj)
 exact⟨a,kQu ha,hr⟩
def EntZ:Value:=EntV (kQc 32 0) [] none 0 0
theorem zero_ent (W:World):(zeroValue 132).run Tryz.prog W=.ok EntZ W:=by kernel_rfl
theorem key_one {es:Array MapEntry} {clock:Nat} (hst:Stamped es clock) {i j:Nat} {x y:MapEntry} (hi:es.toList[i]?=some x) (hj:es.toList[j]?=some y) (h:x.key=y.key):x=y:=by
 have hn:=hst.2.2
 obtain⟨hi1,hi2⟩:=List.getElem?_eq_some_iff.mp hi
 obtain⟨hj1,hj2⟩:=List.getElem?_eq_some_iff.mp hj
 have e:i=j:=by
  have hp:=List.pairwise_iff_getElem.mp hn
  have hx:(es.toList.map (·.key))[i]'(by rw [List.length_map];exact hi1)=(es.toList.map (·.key))[j]'(by rw [List.length_map];exact hj1):=by rw [List.getElem_map,List.getElem_map,hi2,hj2,h]
  rcases Nat.lt_trichotomy i j with h1|h1|h1
  ·exact absurd hx (hp i j _ _ h1)
  ·exact h1
  ·exact absurd hx.symm (hp j i _ _ h1)
 subst e
 rw[hi]at hj
 exact Option.some.inj hj
theorem qK3 {lo b:Nat} {m:List (List UInt8×Ent)} {W:World} (h:MapB lo b m W) (s:List UInt8) (hs:s.length≤100000) :
  ((∀p∈m,p.1≠s)∧∀W':World,W'.heap[b]?=W.heap[b]?→(Instr.lookup 78 (.map (some b)) (.string (strB s)) true).run Tryz.prog W'=.ok (.tuple #[EntZ,.bool false]) W')∨
  ∃(j:Nat) (e:Ent) (A:Option Addr) (c:Nat),m[j]?=some (s,e)∧(∀W':World,W'.heap[b]?=W.heap[b]?→(Instr.lookup 78 (.map (some b)) (.string (strB s)) true).run Tryz.prog W'=.ok (.tuple #[EntV e.key e.beside A e.text.length c,.bool true]) W')∧
   RdB W A e.text∧e.key.length=32∧e.text.length≤c∧∀a,A=some a→a.block<W.heap.size∧lo≤a.block∧OfB W a.block:=by
 obtain⟨es,clock,hb,hst,hall⟩:=h.has
 obtain⟨l,hl⟩:=key_ok s hs
 have hkeys:∀e∈es.toList,∃l,keyOf Tryz.prog 9 e.key=some l:=by
  intro e he
  obtain⟨p,hp,hr⟩:=hall.mem e he
  rw[hr.1]
  exact key_ok p.1 (h.small p hp)
 rcases sLaw.find W hl es.toList hkeys with ⟨_,h2⟩|⟨j,e0,_,h2,h3⟩
 ·left
  refine⟨fun p hp e=>?_,fun W' hw=>?_⟩
  ·obtain⟨x,hx,hr⟩:=hall.mem' p hp
   exact h2 x hx (by rw [hr.1,e])
  ·rw [hb]at hw
   rcases sLaw.find W' hl es.toList hkeys with ⟨h1,_⟩|⟨j,e0,_,h4,h5⟩
   ·simp [Instr.lookup,run_underlying Tryz.underlying78,Go.MapKept.run_getObj_map hw,sLaw.check W' _ hl,h1,zero_ent W',Result.andThen]
   ·exact absurd h5 (h2 e0 (kQu h4))
 ·right
  obtain⟨p,hp,hk,A,c,hv,hR,h32,hlc,hlt⟩:=hall.at j e0 h2
  have e1:p.1=s:=by
   rw[h3]at hk
   injection hk with hk
   exact(strB_inj.mp hk).symm
  obtain⟨ps,pe⟩:=p
  simp only at e1 hv hR h32 hlc
  subst e1
  refine⟨j,pe,A,c,hp,fun W' hw=>?_,hR,h32,hlc,hlt⟩
  rw[hb]at hw
  rcases sLaw.find W' hl es.toList hkeys with ⟨_,h4⟩|⟨j',e0',h1,h4,h5⟩
  ·exact absurd h3 (h4 e0 (kQu h2))
  ·obtain rfl:=key_one hst h2 h4 (by rw [h3,h5])
   simp [Instr.lookup,run_underlying Tryz.underlying78,Go.MapKept.run_getObj_map hw,sLaw.check W' _ hl,h1,hv,Result.andThen]
theorem qZb (W:World) (b:Nat) (o:Obj):W.grownBy (Go.ChangeMaps.setBlock W b o) (some b):=
 ⟨rfl,rfl,rfl,by simp [Go.ChangeMaps.setBlock],fun k hk hne=>by
  simp only [Go.ChangeMaps.setBlock]
  rw[Array.getElem?_setIfInBounds_ne (by intro e;exact hne (by rw [e]))]⟩
theorem qKf (W:World) (b:Nat) (o:Obj) (h:b<W.heap.size):(Go.ChangeMaps.setBlock W b o).heap[b]?=some o:=by
 simp [Go.ChangeMaps.setBlock,h]
theorem EntR.far {W W':World} {lo:Nat} {x:MapEntry} {p:List UInt8×Ent} {r:Option Nat} (h:EntR lo W x p) (hg:W.grownBy W' r) (hr:∀g,r=some g→g<lo):EntR lo W' x p:=by
 obtain⟨h1,A,c,h2,h3,h4,h5,h6⟩:=h
 exact⟨h1,A,c,h2,h3.grown hg (fun g e a ha=>by have:=hr g e;have:=(h6 a ha).2.1;omega),h4,h5,fun a e=>⟨kQb (h6 a e).1 hg.size,(h6 a e).2.1,(h6 a e).2.2.grown hg (fun e2=>by have:=hr _ e2.symm;have:=(h6 a e).2.1;omega)⟩⟩
theorem MapB.far {W W':World} {lo b:Nat} {m:List (List UInt8×Ent)} {r:Option Nat} (h:MapB lo b m W) (hg:W.grownBy W' r) (hr:∀g,r=some g→g<lo∧g≠b):MapB lo b m W':=by
 obtain⟨es,clock,h1,h2,h3⟩:=h.has
 exact⟨⟨es,clock,qQd hg (fun e=>(hr b e.symm).2 rfl) h1,h2,h3.mono fun x y hx=>hx.far hg fun g e=>(hr g e).1⟩,h.small,h.low⟩
theorem All2.set {α β:Type} {R:α→β→Prop} {xs:List α} {ys:List β} (h:All2 R xs ys) (j:Nat) (a:α) (b:β) (hab:R a b):All2 R (xs.set j a) (ys.set j b):=by
 induction h generalizing j with
 | nil=>simpa using All2.nil
 | cons h1 h2 ih=>
  cases j with
  | zero=>exact .cons hab h2
  | succ j=>exact .cons h1 (ih j)
theorem mapB_put {lo b:Nat} {m:List (List UInt8×Ent)} {W:World} (h:MapB lo b m W) (s:List UInt8) (hs:s.length≤100000) (e:Ent) (A:Option Addr) (c:Nat) (hm:m.length≤100000)
  (hR:RdB W A e.text) (hk:e.key.length=32) (hc:e.text.length≤c) (hA:∀a,A=some a→a.block<W.heap.size∧lo≤a.block∧OfB W a.block) :
  ∃W',(Instr.mapUpdate 78 (.map (some b)) (.string (strB s)) (EntV e.key e.beside A e.text.length c)).run Tryz.prog W=.ok () W'∧W.grownBy W' (some b)∧
   (((∀p∈m,p.1≠s)∧MapB lo b (m++[(s,e)]) W')∨∃(j:Nat) (e0:Ent),m[j]?=some (s,e0)∧MapB lo b (m.set j (s,e)) W'):=by
 obtain⟨es,clock,hb,hst,hall⟩:=h.has
 obtain⟨l,hl⟩:=key_ok s hs
 have hkeys:∀e∈es.toList,∃l,keyOf Tryz.prog 9 e.key=some l:=by
  intro e he
  obtain⟨p,hp,hr⟩:=hall.mem e he
  rw[hr.1]
  exact key_ok p.1 (h.small p hp)
 rcases sLaw.find W hl es.toList hkeys with ⟨h1,h2⟩|⟨j,e0,h1,h2,h3⟩
 ·refine⟨Go.ChangeMaps.setBlock W b (.map (es.push ⟨.string (strB s),EntV e.key e.beside A e.text.length c,clock⟩) (clock+1)),?_,qZb _ _ _,.inl ⟨?_,⟨⟨_,_,qKf _ _ _ h.lt,stamped_push hst h2,?_⟩,?_,?_⟩⟩⟩
  ·simp [Instr.mapUpdate,run_underlying Tryz.underlying78,Go.MapKept.run_getObj_map hb,sLaw.check W false hl,h1,Go.MapKept.run_setObj_map _ hb,Result.andThen,Go.ChangeMaps.setBlock]
  ·intro p hp e1
   obtain⟨x,hx,hr⟩:=hall.mem' p hp
   exact h2 x hx (by rw [hr.1,e1])
  ·rw [Array.toList_push]
   refine(hall.mono fun x y hr=>hr.far (qZb W b _) (by rintro g ⟨⟩;exact h.low)).snoc ⟨rfl,A,c,rfl,hR.grown (qZb _ _ _) (fun g ee a ha=>by cases ee;have:=(hA a ha).2.1;have:=h.low;omega),hk,hc,fun a ea=>⟨kQb (hA a ea).1 (qZb W b _).size,(hA a ea).2.1,(hA a ea).2.2.grown (qZb W b _) (fun e2=>by have:=Option.some.inj e2;have:=(hA a ea).2.1;have:=h.low;omega)⟩⟩
  ·intro p hp
   rcases List.mem_append.mp hp with h3|h3
   ·exact h.small p h3
   ·simp at h3;rw [h3];exact hs
  ·exact h.low
 ·obtain⟨p,hp,hr⟩:=hall.at j e0 h2
  have e1:p.1=s:=by
   have hk:=hr.1
   rw[h3]at hk
   injection hk with hk
   exact(strB_inj.mp hk).symm
  obtain⟨ps,pe⟩:=p
  simp only at e1
  subst e1
  have hj:es[j]?=some e0:=by simpa using h2
  have hkeyf:∀e',es[j]?=some e'→({ e' with key:=.string (strB ps),val:=EntV e.key e.beside A e.text.length c }:MapEntry).key=e'.key:=fun e' he'=>by rw [hj]at he';cases he';exact h3.symm
  refine⟨Go.ChangeMaps.setBlock W b (.map (es.modify j (fun e'=>{ e' with key:=.string (strB ps),val:=EntV e.key e.beside A e.text.length c })) clock),?_,qZb _ _ _,.inr ⟨j,pe,hp,⟨⟨_,_,qKf _ _ _ h.lt,stamped_modify hst _ _ (fun _ _=>rfl) (fun e' _ he'=>hkeyf e' he'),?_⟩,?_,?_⟩⟩⟩
  ·simp [Instr.mapUpdate,run_underlying Tryz.underlying78,Go.MapKept.run_getObj_map hb,sLaw.check W false hl,h1,hj,h3,sLaw.stays W hl,Go.MapKept.run_setObj_map _ hb,Result.andThen,Go.ChangeMaps.setBlock]
  ·rw [Array.toList_modify,Go.ChangeMaps.modify_eq_set _ _ _ _ h2]
   exact(hall.mono fun x y hr=>hr.far (qZb W b _) (by rintro g ⟨⟩;exact h.low)).set j _ _ ⟨rfl,A,c,rfl,hR.grown (qZb _ _ _) (fun g ee a ha=>by cases ee;have:=(hA a ha).2.1;have:=h.low;omega),hk,hc,fun a ea=>⟨kQb (hA a ea).1 (qZb W b _).size,(hA a ea).2.1,(hA a ea).2.2.grown (qZb W b _) (fun e2=>by have:=Option.some.inj e2;have:=(hA a ea).2.1;have:=h.low;omega)⟩⟩
  ·intro p hp2
   rcases List.mem_or_eq_of_mem_set hp2 with h3|h3
   ·exact h.small p h3
   ·rw [h3];exact hs
  ·exact h.low
end Go.Proofs.YtlocplkjokoknaaGreat
namespace Go.Proofs.YtlocplkjokoknaaGreat
open Go.RowKit
attribute [local go_sem ↓] Go.wp_at_zero Go.wp_at_succ
theorem grow_any (w:World) (n:Nat) (hb:n≤140737488355328) :
  Calls Tryz.prog 46 #[.slice none 0 0,.int .i64 (n:Int)] w fun e w'=>∃v,e=.returned v∧OwnB w' w.heap.size v []∧Below w.heap.size w w':=by
 obtain⟨i0,hi,hz0,hz1,hz2⟩:=info_parts (show(Tryz.prog.info? 5).map (fun i=>(i.zero,i.size,i.bytes))=some (some (.int .u8 0),1,1) by kernel_rfl)
 have nb:(n:Int)≤140737488355328:=by omega
 by_cases h0:n=0
 ·subst h0
  go_enter Tryz.func46,Tryz.ntmps46
  go_wp2_with fail
  go_ret
  exact⟨_,rfl,OwnB.nil _ _,Below.refl _ _⟩
 ·have hD:decide ((0:Int)<(n:Int))=true:=by simp;omega
  have n0:(0:Int)<(n:Int):=by omega
  have G:=Lh (show n≤grownCap w n 0 5∧grownCap w n 0 5≤maxLen from⟨grownCap_ge _ _ _ _,grownCap_le_maxLen _ _ _ _ (by unfold maxLen;omega)⟩)
  have HRZ:=Lh (fun ty=>Lib.run_append_nil_zeros (P:=Tryz.prog) w 22 3 ty 5 i0 _ .i64 .i64 Tryz.underlying22 Tryz.underlying3 hi hz0 n (by omega) (by omega) (by omega) (by rw [hz2];omega))
  have S0:=Lh (show(Builtin.zeroCells (Value.int .u8 0).cells n++Builtin.zeroCells (Value.int .u8 0).cells (grownCap w n 0 5-n)).size=grownCap w n 0 5*1 by
   rw[Array.size_append,size_zeroCells,size_zeroCells]
   have:=G.out
   have e:(Value.int .u8 0).cells.size=1:=rfl
   rw[e]
   omega)
  generalize Builtin.zeroCells (Value.int .u8 0).cells n++Builtin.zeroCells (Value.int .u8 0).cells (grownCap w n 0 5-n)=cs at *
  generalize grownCap w n 0 5=cap at *
  clear h0 hb hi hz0 hz1 hz2
  go_enter Tryz.func46,Tryz.ntmps46
  go_wp2_with (refine Lib.wpList_append_run _ rfl (.tmp 20) (.tmp 21) 22 3 rfl _ _ rfl rfl _ _ (HRZ.out _) ?_)
  go_ret
  exact⟨_,rfl,World.ownsRow_made w.drew cs cap (kQh _) G.out.2 S0.out,(Below.refl _ _).drew.alloc (kQh _) _⟩
theorem qW7 (ls:List (List UInt8)) (j:Nat):(ls.take j).flatten.length≤ls.flatten.length:=by
 conv=>rhs;rw [←List.take_append_drop j ls]
 rw[List.flatten_append,kQj]
 omega
theorem concat_any (w:World) (A:Option Addr) (n c:Nat) (vs:List Value) (ls:List (List UInt8)) (hn:vs.length=n) (hR:RdV w A vs) (hall:All2 (SlB w) vs ls) (hfl:ls.flatten.length≤1000000) (hnb:n≤1000000) :
  Calls Tryz.prog 23 #[.slice A n c] w fun e w'=>∃v,e=.returned v∧OwnB w' w.heap.size v ls.flatten∧Below w.heap.size w w':=by
 have TB:=Lh (show qXA Tryz.prog from⟨Tryz.underlying22,by kernel_rfl⟩)
 have HR:=Lh hR
 have HA:=Lh hall
 have HF:=Lh hfl
 have NL:=Lh (show ls.length=n by rw [←hall.length,hn])
 have nb:(n:Int)≤1000000:=by omega
 clear hn hR hall hnb hfl
 go_enter Tryz.func23,Tryz.ntmps23
 go_wp2_with fail
 go_loopw [3,11] (fun u i wr=>∃(j S:Nat),j≤n∧i=.int .i64 (j:Int)∧u=.int .i64 (S:Int)∧(ls.take j).flatten.length=S∧wr=w) (fun _ i _=>n-(intOf i).toNat)
 case atStart=>exact⟨0,0,by omega,rfl,rfl,by simp,rfl⟩
 case round=>
  obtain⟨j,S,hj,rfl,rfl,hsum,hw⟩:=hrel
  rw[hw]
  clear hw wr
  have J:=Lh hj
  have SM:=Lh hsum
  have sb:(S:Int)≤1000000:=by have:=qW7 ls j;have:=HF.out;omega
  clear hsum
  by_cases hlt:j<n
  ·have hD:decide ((j:Int)<(n:Int))=true:=by simp;omega
   have jb:(j:Int)<(n:Int):=by omega
   obtain⟨l,hl⟩:∃l,ls[j]?=some l:=⟨_,kQi (by rw [NL.out];exact hlt)⟩
   obtain⟨v,hv,A',c',rfl,hc',hR'⟩:=HA.out.get j l hl
   obtain⟨b,o,rfl,hcell⟩:=HR.out j _ hv
   have TL:=Lh (show(ls.take (j+1)).flatten.length=(ls.take j).flatten.length+l.length by rw [List.take_add_one,hl];simp)
   obtain⟨m,hm⟩:∃m,m=l.length:=⟨_,rfl⟩
   rw[←hm]at hcell TL
   have mb:(m:Int)≤1000000:=by have:=qW7 ls (j+1);have:=HF.out;have:=TL.out;omega
   obtain⟨T,hT⟩:∃T,T=S+m:=⟨_,rfl⟩
   have e1:(S:Int)+(m:Int)=(T:Int):=by omega
   have T0:¬((T:Int)<0):=by omega
   have hE:decide ((T:Int)<0)=false:=by simp
   have TT:=Lh (show(ls.take (j+1)).flatten.length=T by have:=TL.out;have:=SM.out;omega)
   clear hl hv hc' hR' hm hT
   go_wp2_with fail
   go_roundw
   case rel=>exact⟨j+1,T,by omega,by go_num,rfl,TT.out,trivial⟩
   case measure=>simp [intOf];omega
  ·have hD:decide ((j:Int)<(n:Int))=false:=by simp;omega
   have SN:=Lh (show S=ls.flatten.length by have:=SM.out;rw [kQn (by rw [NL.out];omega)]at this;omega)
   go_wp2_with fail
   refine(grow_any w S (by have:=SN.out;have:=HF.out;omega)).mono ?_
   rintro e w1 ⟨v0,rfl,ho,hb⟩
   have O0:=Lh ho
   have S0:=Lh hb
   clear ho hb hD sb
   go_wp2_with fail
   go_loopw [6,27] (fun u i wr=>∃j:Nat,j≤n∧i=.int .i64 (j:Int)∧OwnB wr w.heap.size u (ls.take j).flatten∧Below w.heap.size w wr) (fun _ i _=>n-(intOf i).toNat)
   case atStart=>exact⟨0,by omega,rfl,O0.out,S0.out⟩
   case round=>
    obtain⟨j,hj,rfl,ho,hbel⟩:=hrel
    have J:=Lh hj
    have O:=Lh ho
    have S:=Lh hbel
    clear ho hbel
    by_cases hlt:j<n
    ·have hD:decide ((j:Int)<(n:Int))=true:=by simp;omega
     have jb:(j:Int)<(n:Int):=by omega
     obtain⟨l,hl⟩:∃l,ls[j]?=some l:=⟨_,kQi (by rw [NL.out];exact hlt)⟩
     obtain⟨v,hv,A',c',rfl,hc',hR'⟩:=HA.out.get j l hl
     obtain⟨b,o,rfl,hcell⟩:=(HR.out.keep S.out) j _ hv
     have TL:=Lh (show(ls.take (j+1)).flatten=(ls.take j).flatten++l by rw [List.take_add_one,hl];simp)
     have TN:=Lh (show(ls.take j).flatten.length+l.length≤1000000 by have:=qW7 ls (j+1);have:=HF.out;have:=congrArg List.length TL.out;rw [kQj]at this;omega)
     obtain⟨m,hm⟩:∃m,m=l.length:=⟨_,rfl⟩
     rw[←hm]at hcell TN
     have ME:=Lh hm.symm
     have RY:=Lh (hR'.keep S.out)
     clear hl hv hc' hR' hm
     go_wp2_with (refine qX1 rfl TB.out (.tmp 31) (.tmp 32) rfl w.heap.size u6 (ls.take j).flatten l A' m c' rfl rfl ME.out O.out RY.out S.out.size (by have:=TN.out;omega) ?_)
     intro v1 w2 ho hg _
     have S:=Lh (S.out.trans (qQi hg S.out.size (fun k e=>(O.out.lt k e).1)))
     have O:=Lh (show OwnB w2 w.heap.size v1 (ls.take (j+1)).flatten by rw [TL.out];exact ho)
     clear ho hg hcell
     go_wp2_with fail
     go_roundw
     case rel=>exact⟨j+1,by omega,by go_num,O.out,S.out⟩
     case measure=>simp [intOf];omega
    ·have hD:decide ((j:Int)<(n:Int))=false:=by simp;omega
     have LE:=Lh (show ls.take j=ls by rw [kQn (by rw [NL.out];omega)])
     go_wp2_with fail
     go_ret
     exact⟨_,rfl,by have:=O.out;rwa [LE.out]at this,S.out⟩
end Go.Proofs.YtlocplkjokoknaaGreat
namespace Go.Proofs.YtlocplkjokoknaaGreat
open Go.RowKit
theorem rot_core (x:UInt32) (r:Nat) (hr:r<32) (h0:0<r) :
  bits .or .u32 ((x.toNat:Int)*2 ^ r % 4294967296) ((x.toNat:Int)/2 ^ (32-r))=((rotl x r).toNat:Int):=by
 have h1:(x.toNat:Int)*2 ^ r % 4294967296=((x.toNat*2 ^ r % 4294967296:Nat):Int):=by
  rw[Int.natCast_emod,Int.natCast_mul,Int.natCast_pow];rfl
 have h2:(x.toNat:Int)/2 ^ (32-r)=((x.toNat/2 ^ (32-r):Nat):Int):=by
  rw[Int.natCast_ediv,Int.natCast_pow];rfl
 rw[h1,h2,u32_or_nat]
 ·have e1:(UInt32.ofNat r).toNat=r:=by simp;omega
  have e2:(UInt32.ofNat (32-r)).toNat=32-r:=by simp;omega
  congr 1
  rw[rotl,UInt32.toNat_or,UInt32.toNat_shiftLeft,UInt32.toNat_shiftRight,e1,e2,Nat.mod_eq_of_lt hr,Nat.mod_eq_of_lt (show 32-r<32 by omega),Nat.shiftLeft_eq,Nat.shiftRight_eq_div_pow]
 ·omega
 ·have:=x.toNat_lt
  exact Nat.lt_of_le_of_lt (Nat.div_le_self _ _) this
theorem rot_any (x:UInt32) (k:Int) (w:World) (r:Nat) (hr:(r:Int)<32) (h0:(0:Int)<(r:Int)) (hk:bits .and .u64 (IntKind.u64.wrap k) 31=(r:Int)) :
  Calls Tryz.prog 137 #[.int .u32 (x.toNat:Int),.int .i64 k] w fun e w'=>e=.returned (.int .u32 ((rotl x r).toNat:Int))∧w'=w:=by
 have hc:=rot_core x r (by omega) (by omega)
 go_enter Tryz.func137,Tryz.ntmps137
 go_wp2
 go_ret
 exact⟨rfl,rfl⟩
def rotr (x:UInt32) (n:Nat):UInt32:=rotl x (32-n)
theorem qZJ (x:UInt32) (n:Nat) (w:World) (hn:(n:Int)<32) (h0:(0:Int)<(n:Int)) (hk:bits .and .u64 (IntKind.u64.wrap (-(n:Int))) 31=((32-n:Nat):Int)) :
  Calls Tryz.prog 128 #[.int .u32 (x.toNat:Int),.int .i64 (n:Int)] w fun e w'=>e=.returned (.int .u32 ((rotr x n).toNat:Int))∧w'=w:=by
 have K:=Lh hk
 clear hk
 go_enter Tryz.func128,Tryz.ntmps128
 go_wp2_with fail
 refine(rot_any x (-(n:Int)) w (32-n) (by omega) (by omega) K.out).mono ?_
 rintro e w1 ⟨rfl,rfl⟩
 go_wp2_with fail
 go_ret
 exact⟨rfl,rfl⟩
def qVc:List UInt32:=[0x6a09e667,0xbb67ae85,0x3c6ef372,0xa54ff53a,0x510e527f,0x9b05688c,0x1f83d9ab,0x5be0cd19]
def constL:List UInt32:=[
 0x428a2f98,0x71374491,0xb5c0fbcf,0xe9b5dba5,0x3956c25b,0x59f111f1,0x923f82a4,0xab1c5ed5,
 0xd807aa98,0x12835b01,0x243185be,0x550c7dc3,0x72be5d74,0x80deb1fe,0x9bdc06a7,0xc19bf174,
 0xe49b69c1,0xefbe4786,0x0fc19dc6,0x240ca1cc,0x2de92c6f,0x4a7484aa,0x5cb0a9dc,0x76f988da,
 0x983e5152,0xa831c66d,0xb00327c8,0xbf597fc7,0xc6e00bf3,0xd5a79147,0x06ca6351,0x14292967,
 0x27b70a85,0x2e1b2138,0x4d2c6dfc,0x53380d13,0x650a7354,0x766a0abb,0x81c2c92e,0x92722c85,
 0xa2bfe8a1,0xa81a664b,0xc24b8b70,0xc76c51a3,0xd192e819,0xd6990624,0xf40e3585,0x106aa070,
 0x19a4c116,0x1e376c08,0x2748774c,0x34b0bcb5,0x391c0cb3,0x4ed8aa4a,0x5b9cca4f,0x682e6ff3,
 0x748f82ee,0x78a5636f,0x84c87814,0x8cc70208,0x90befffa,0xa4506ceb,0xbef9a3f7,0xc67178f2]
theorem qJJ:constL.length=64:=rfl
theorem begin_any (w:World):Calls Tryz.prog 106 #[] w fun e w'=>e=.returned (.agg (W32 qVc))∧Below w.heap.size w w':=by
 have Z:=Lh (show(Tryz.prog.info? 198).map (·.size)=some (W32 qVc).size by kernel_rfl)
 go_enter Tryz.func106,Tryz.ntmps106
 go_wp2_with (refine qQp rfl rfl 198 (.tmp 0) (.tmp 1) rfl (W32 qVc) rfl rfl Z.out ?c1 (qZt _) ?_)
 case c1=>rfl
 go_wp2_with fail
 refine bodyPost_ret (results_cell_row rfl _ _ w.heap.size 198 (W32 qVc) (0,0) _ rfl (qQk _ _ _ rfl) Tryz.underlying198 rfl Z.out) rfl ?_
 exact⟨rfl,(Below.refl _ _).alloc (kQh _) _⟩
end Go.Proofs.YtlocplkjokoknaaGreat
namespace Go.Proofs.YtlocplkjokoknaaGreat
open Go.RowKit
attribute [local go_sem ↓] Go.wp_at_zero Go.wp_at_succ
theorem constants_any (w:World):Calls Tryz.prog 127 #[] w fun e w'=>e=.returned (.agg (W32 constL))∧Below w.heap.size w w':=by
 have Z:=Lh (show(Tryz.prog.info? 205).map (·.size)=some (W32 constL).size by kernel_rfl)
 go_enter Tryz.func127,Tryz.ntmps127
 go_wp2_with (refine qQp rfl rfl 205 (.tmp 0) (.tmp 1) rfl (W32 constL) rfl rfl Z.out ?c1 (qZt _) ?_)
 case c1=>rfl
 refine bodyPost_ret (results_cell_row rfl _ _ w.heap.size 205 (W32 constL) (0,0) _ rfl (qQk _ _ _ rfl) Tryz.underlying205 rfl Z.out) rfl ?_
 exact⟨rfl,(Below.refl _ _).alloc (kQh _) _⟩
def qJp (b:List UInt8) (t:Nat):Nat→UInt32
 | 0=>0
 | j+1=>qJp b t j <<< 8 ||| (b.getD (4*t+j) 0).toUInt32
def lowL (x:UInt32):UInt32:=rotr x 7 ^^^ rotr x 18 ^^^ x >>> 3
def highL (y:UInt32):UInt32:=rotr y 17 ^^^ rotr y 19 ^^^ y >>> 10
def nextL (l:List UInt32) (t:Nat):UInt32:=l.getD (t-16) 0+lowL (l.getD (t-15) 0)+l.getD (t-7) 0+highL (l.getD (t-2) 0)
def qQS (b:List UInt8):Nat→List UInt32
 | 0=>kQc 64 0
 | t+1=>(qQS b t).set t (if t<16 then qJp b t 4 else nextL (qQS b t) t)
theorem qQ1 (b:List UInt8) (t:Nat):(qQS b t).length=64:=by
 induction t with
 | zero=>simp [qQS]
 | succ t ih=>simp [qQS,ih]
theorem qYr (b:List UInt8):∀(t i:Nat),t≤i→(qQS b t).getD i 0=0
 | 0,i,_=>by
  unfold qQS
  rw[kQa]
  by_cases h:i<64
  ·rw [kQi (by simpa using h),List.getElem_replicate];rfl
  ·rw [List.getElem?_eq_none (by simp;omega)];rfl
 | t+1,i,h=>by
  rw[qQS,kQa,List.getElem?_set_ne (by omega),←kQa]
  exact qYr b t i (by omega)
theorem step4 (x:UInt32) (y:UInt8):bits .or .u32 ((x.toNat:Int)*256 % 4294967296) (y.toNat:Int)=((x <<< 8 ||| y.toUInt32).toNat:Int):=by
 have h1:(x.toNat:Int)*256 % 4294967296=((x.toNat*256 % 4294967296:Nat):Int):=by
  rw[Int.natCast_emod,Int.natCast_mul];rfl
 have e1:(8:UInt32).toNat % 32=8:=rfl
 rw[h1,u32_or_nat _ _ (by omega) (by have:=y.toNat_lt;omega),UInt32.toNat_or,UInt32.toNat_shiftLeft,e1,Nat.shiftLeft_eq,UInt8.toNat_toUInt32]
theorem shr_low (x:UInt32) (k:Nat) (hk:k<32):(x.toNat:Int)/((2 ^ k:Nat):Int)=((x >>> (UInt32.ofNat k)).toNat:Int):=by
 have e1:(UInt32.ofNat k).toNat=k:=by simp;omega
 rw[UInt32.toNat_shiftRight,e1,Nat.mod_eq_of_lt hk,Nat.shiftRight_eq_div_pow,Int.natCast_ediv]
theorem low_ex (x:UInt32):∃z:UInt32,Hid (z=lowL x)∧bits .xor .u32 (bits .xor .u32 ((rotr x 7).toNat:Int) ((rotr x 18).toNat:Int)) ((x.toNat:Int)/8)=(z.toNat:Int):=by
 refine⟨_,rfl,?_⟩
 have h:=shr_low x 3 (by omega)
 rw[show((2 ^ 3:Nat):Int)=8 from rfl,show UInt32.ofNat 3=3 from rfl]at h
 rw[h,qXf,qXf]
 rfl
theorem high_ex (x:UInt32):∃z:UInt32,Hid (z=highL x)∧bits .xor .u32 (bits .xor .u32 ((rotr x 17).toNat:Int) ((rotr x 19).toNat:Int)) ((x.toNat:Int)/1024)=(z.toNat:Int):=by
 refine⟨_,rfl,?_⟩
 have h:=shr_low x 10 (by omega)
 rw[show((2 ^ 10:Nat):Int)=1024 from rfl,show UInt32.ofNat 10=10 from rfl]at h
 rw[h,qXf,qXf]
 rfl
structure ScW (w:World) (l:List UInt32) (W:World):Prop where
 bz:W.heap[w.heap.size]?=some (.cells (W32 (kQc 64 0)) 205 (0,0))
 bs:W.heap[w.heap.size+1]?=some (.cells (W32 l) 205 (0,0))
 bel:Below w.heap.size w W
theorem ScW.set {w W:World} {l:List UInt32} (h:ScW w l W) (i:Nat) (x:UInt32):ScW w (l.set i x) (W.setCell ⟨w.heap.size+1,i,none⟩ (.int .u32 (x.toNat:Int))) where
 bz:=qQd (qQF (World.grownBy.refl _ _) _ _) (by simp) h.bz
 bs:=by rw [heap_setCell_same _ _ _ _ _ _ h.bs,qVD]
 bel:=h.bel.trans (qQi (qQF (World.grownBy.refl W (some (w.heap.size+1))) _ _) (Nat.le_of_lt (qQe h.bz)) (by rintro g ⟨⟩;omega))
theorem ScW.keep {w W W':World} {l:List UInt32} (h:ScW w l W) (h':Below W.heap.size W W'):ScW w l W' where
 bz:=qQb h' (qQe h.bz) h.bz
 bs:=qQb h' (qQe h.bs) h.bs
 bel:=h.bel.trans (h'.mono (Nat.le_of_lt (qQe h.bz)))
theorem schedule_any (b:List UInt8) (hb:b.length=64) (w:World) (g o:Nat) (hR:RdB w (some ⟨g,o,none⟩) b) (hg:g<w.heap.size) :
  Calls Tryz.prog 126 #[.pointer (some ⟨g,o,none⟩)] w fun e w'=>e=.returned (.agg (W32 (qQS b 64)))∧Below w.heap.size w w':=by
 have HB:=Lh hb
 have HR:=Lh hR
 have HG:=Lh hg
 clear hb hR hg
 obtain⟨i0,hi,hz0,hz1,hz2⟩:=info_parts (show(Tryz.prog.info? 5).map (fun i=>(i.zero,i.size,i.bytes))=some (some (.int .u8 0),1,1) by kernel_rfl)
 have I0:=Lh hi
 have I2:=Lh hz1
 clear hi hz0 hz1 hz2
 go_enter Tryz.func126,Tryz.ntmps126
 go_wp2_with fail
 refine qZ1 (fun W=>ScW w (qQS b 0) W) ⟨qQM _ _ _ (by simp) (qQk _ _ _ rfl),qQk _ _ _ (by simp),((Below.refl _ _).alloc (kQh _) _).alloc (by simp) _⟩ ?_
 intro w1 h1
 have H1:=Lh h1
 clear h1
 go_loopw [11] (fun i wr=>∃t:Nat,t≤64∧i=.int .i64 (t:Int)∧ScW w (qQS b t) wr) (fun i _=>64-(intOf i).toNat)
 case atStart=>exact⟨0,by omega,rfl,H1.out⟩
 case round=>
  obtain⟨t,ht,rfl,h2⟩:=hrel
  have H2:=Lh h2
  clear h2 H1 w1
  by_cases hlt:t<64
  ·have hD:decide ((t:Int)<64)=true:=by simp;omega
   by_cases h16:t<16
   ·have hE:decide ((t:Int)<16)=true:=by simp;omega
    have hX:∀W:World,(Instr.sliceAt 179 (.pointer (some ⟨g,o,none⟩)) (some (.int .i64 (4*(t:Int)))) (some (.int .i64 (4*(t:Int)+4))) none).run Tryz.prog W=.ok (.slice (some ⟨g,o+4*t,none⟩) 4 (64-4*t)) W:=fun W=>by
     have:=slice_ptr (P:=Tryz.prog) 179 5 64 Tryz.underlying179 I0.out I2.out g o (4*t) (4*t+4) (by omega) (by omega) (by omega) W
     rw[show 4*t+4-4*t=4 by omega]at this
     exact this
    go_wp2_with fail
    clear hX
    go_loopw [25] (fun i wq=>∃j:Nat,j≤4∧i=.int .i64 (j:Int)∧ScW w ((qQS b t).set t (qJp b t j)) wq) (fun i _=>4-(intOf i).toNat)
    case atStart=>
     refine⟨0,by omega,rfl,?_⟩
     have e:(qQS b t).set t (qJp b t 0)=qQS b t:=by
      apply List.ext_getElem?
      intro i
      by_cases h:i=t
      ·subst h
       rw[List.getElem?_set_self (by rw [qQ1];exact hlt)]
       have:=qYr b i i (kQh _)
       rw[kQa,kQi (by rw [qQ1];exact hlt)]at this
       rw[kQi (by rw [qQ1];exact hlt)]
       simp at this
       rw[this];rfl
      ·rw [List.getElem?_set_ne (by omega)]
     rw[e]
     exact H2.out
    case round=>
     obtain⟨j,hj,rfl,h3⟩:=hrel
     have H3:=Lh h3
     clear h3
     have L3:=Lh (show((qQS b t).set t (qJp b t j)).length=64 by rw [List.length_set,qQ1])
     by_cases hj4:j<4
     ·have hF:decide ((j:Int)<4)=true:=by simp;omega
      obtain⟨x,hx⟩:∃x,x=qJp b t j:=⟨_,rfl⟩
      obtain⟨y,hy⟩:∃y,y=b.getD (4*t+j) 0:=⟨_,rfl⟩
      have a1:=qQg H3.out.bs t (qQZ _ t (by rw [L3.out];exact hlt))
      rw[show((qQS b t).set t (qJp b t j)).getD t 0=x by rw [hx,kQa,List.getElem?_set_self (by rw [qQ1];exact hlt)];rfl]at a1
      have a2:=qQz H3.out.bs t
      obtain⟨b',o',e',a3⟩:=(HR.out.below H3.out.bel (fun a e=>by cases e;exact HG.out)) (4*t+j) (by rw [HB.out];omega)
      cases e'
      rw[←hy,←Nat.add_assoc]at a3
      have X:=Lh hx
      have Y:=Lh hy
      clear hx hy
      go_wp2_with fail
      go_roundw
      case rel=>
       refine⟨j+1,by omega,by go_num,?_⟩
       rw[show((y.toNat:Int) % 4294967296)=(y.toNat:Int) by have:=y.toNat_lt;omega,step4 x y]
       have:=H3.out.set t (x <<< 8 ||| y.toUInt32)
       rw[List.set_set]at this
       rw[qJp,←X.out,←Y.out]
       exact this
      case measure=>simp [intOf];omega
     ·have hj4':Hid (j=4):=show j=4 by omega
      have hF:decide ((j:Int)<4)=false:=by simp;omega
      go_wp2_with fail
      go_roundw
      case rel=>
       refine⟨t+1,by omega,by go_num,?_⟩
       rw[qQS,if_pos h16,←hj4'.out]
       exact H3.out
      case measure=>simp [intOf];omega
   ·have hE:decide ((t:Int)<16)=false:=by simp;omega
    obtain⟨xa,hxa⟩:∃x,x=(qQS b t).getD (t-15) 0:=⟨_,rfl⟩
    obtain⟨xb,hxb⟩:∃x,x=(qQS b t).getD (t-2) 0:=⟨_,rfl⟩
    obtain⟨xc,hxc⟩:∃x,x=(qQS b t).getD (t-16) 0:=⟨_,rfl⟩
    obtain⟨xd,hxd⟩:∃x,x=(qQS b t).getD (t-7) 0:=⟨_,rfl⟩
    have SL:=Lh (show(qQS b t).length=64 from qQ1 b t)
    have a1:=qQg H2.out.bs (t-15) (qQZ _ (t-15) (by rw [SL.out];omega))
    have a2:=qQg H2.out.bs (t-2) (qQZ _ (t-2) (by rw [SL.out];omega))
    rw[←hxa]at a1
    rw[←hxb]at a2
    have XA:=Lh hxa
    have XB:=Lh hxb
    have XC:=Lh hxc
    have XD:=Lh hxd
    clear hxa hxb hxc hxd
    go_wp2_with fail
    go_region
    obtain⟨lo,hlo,e1⟩:=low_ex xa
    obtain⟨hi,hhi,e2⟩:=high_ex xb
    have W1:=Lh (show ScW w (qQS b t) wr.drew from H2.out.keep (Below.refl _ _).drew)
    clear a1 a2
    obtain⟨w1,hw1⟩:∃w1,w1=wr.drew:=⟨_,rfl⟩
    have E1:=Lh e1
    have E2:=Lh e2
    clear e1 e2
    go_wp2_with fail
    refine(qZJ xa 7 _ (by omega) (by omega) (by decide)).mono ?_
    rintro e w' ⟨rfl,rfl⟩
    go_wp2_with fail
    refine(qZJ xa 18 _ (by omega) (by omega) (by decide)).mono ?_
    rintro e w' ⟨rfl,rfl⟩
    have e1:=E1.out
    go_wp2_with fail
    clear e1
    refine(qZJ xb 17 _ (by omega) (by omega) (by decide)).mono ?_
    rintro e w' ⟨rfl,rfl⟩
    go_wp2_with fail
    refine(qZJ xb 19 _ (by omega) (by omega) (by decide)).mono ?_
    rintro e w' ⟨rfl,rfl⟩
    have e2:=E2.out
    go_wp2_with fail
    clear e2 E1 E2 hw1
    obtain⟨w1,hw1⟩:∃w1,w1=wr.drew:=⟨_,rfl⟩
    rw[←hw1]at W1 ⊢
    have a1:=qQg W1.out.bs (t-16) (qQZ _ (t-16) (by rw [SL.out];omega))
    have a2:=qQg W1.out.bs (t-7) (qQZ _ (t-7) (by rw [SL.out];omega))
    rw[←XC.out]at a1
    rw[←XD.out]at a2
    have a3:=qQz W1.out.bs t
    have a4:=qQg W1.out.bs t (qQZ _ t (by rw [SL.out];omega))
    clear hw1
    go_region
    clear a1 a2 a3 a4
    go_wp2_with fail
    go_roundw
    case rel=>
     refine⟨t+1,by omega,by go_num,?_⟩
     rw[qQS,if_neg h16,nextL,←XA.out,←XB.out,←XC.out,←XD.out,←hlo.out,←hhi.out]
     have:=(W1.out.set t (xc+lo+xd+hi)).keep (Below.refl _ _).drew
     rw[←qZY,←qZY,←qZY]at this
     rw[show((xc.toNat:Int)+(lo.toNat:Int)+(xd.toNat:Int)+(hi.toNat:Int)) % 4294967296=((((xc.toNat:Int)+(lo.toNat:Int)) % 4294967296+(xd.toNat:Int)) % 4294967296+(hi.toNat:Int)) % 4294967296 by omega]
     exact this
    case measure=>simp [intOf];omega
  ·have ht64:Hid (t=64):=show t=64 by omega
   have hD:decide ((t:Int)<64)=false:=by simp;omega
   have SL:=Lh (show(qQS b t).length=64 from qQ1 b t)
   obtain⟨l,hl⟩:∃l,l=qQS b t:=⟨_,rfl⟩
   rw[←hl]at H2 SL
   have EL:=Lh hl
   clear hl
   have Z:=Lh (show(Tryz.prog.info? 205).map (·.size)=some (W32 l).size by rw [qQA,SL.out];kernel_rfl)
   clear hlt ht
   go_wp2_with (first
    | (refine wpList_load_row rfl 205 (.tmp 3) rfl (w.heap.size+1) rfl 205 (W32 l) (0,0) _ H2.out.bs Tryz.underlying205 rfl Z.out ?_)
    | (refine qQf rfl rfl 205 (.tmp 2) (.tmp 79) rfl w.heap.size (W32 l) rfl rfl 205 _ H2.out.bz Z.out (by rw [qQA,qQA,SL.out];simp) (qZt _) ?_;intro w8 hz8 hg8 _))
   refine bodyPost_ret (results_cell_row rfl _ _ w.heap.size 205 (W32 l) (0,0) _ rfl hz8 Tryz.underlying205 rfl Z.out) rfl ⟨?_,?_⟩
   ·rw [EL.out,ht64.out]
   ·exact H2.out.bel.trans (qQi hg8 (Nat.le_of_lt (qQe H2.out.bz)) (by rintro g ⟨⟩;omega))
end Go.Proofs.YtlocplkjokoknaaGreat
namespace Go.Proofs.YtlocplkjokoknaaGreat
open Go.RowKit
def HBl (made:Bool) (s:List UInt32) (rest:List UInt8) (n:Nat):List Value:=Value.bool made::((s.map fun x=>Value.int .u32 (x.toNat:Int))++((rest.map fun x=>Value.int .u8 (x.toNat:Int))++[Value.int .u64 (n:Int)]))
def HB (made:Bool) (s:List UInt32) (rest:List UInt8) (n:Nat):Array Value:=(HBl made s rest n).toArray
theorem qYh (made:Bool) (s:List UInt32) (rest:List UInt8) (n:Nat) (hs:s.length=8) (hr:rest.length=64):(HB made s rest n).size=74:=by simp [HB,HBl,hs,hr]
theorem HB_made (made:Bool) (s:List UInt32) (rest:List UInt8) (n:Nat):(HB made s rest n)[0]?=some (.bool made):=by simp [HB,HBl]
theorem HB_s (made:Bool) (s:List UInt32) (rest:List UInt8) (n:Nat) (i:Nat) (hi:i<s.length):(HB made s rest n)[1+i]?=some (.int .u32 ((s.getD i 0).toNat:Int)):=by
 simp only [HB,HBl,kQd,Nat.add_comm 1,kQe]
 rw[List.getElem?_append_left (by simpa using hi)]
 simp [hi]
theorem HB_rest (made:Bool) (s:List UInt32) (rest:List UInt8) (n:Nat) (hs:s.length=8) (i:Nat) (hi:i<rest.length):(HB made s rest n)[9+i]?=some (.int .u8 ((rest.getD i 0).toNat:Int)):=by
 simp only [HB,HBl,kQd,show 9+i=(8+i)+1 by omega,kQe]
 rw[kQq (by simp [hs]),List.length_map,hs,show 8+i-8=i by omega,List.getElem?_append_left (by simpa using hi)]
 simp [hi]
theorem HB_n (made:Bool) (s:List UInt32) (rest:List UInt8) (n:Nat) (hs:s.length=8) (hr:rest.length=64):(HB made s rest n)[73]?=some (.int .u64 (n:Int)):=by
 simp only [HB,HBl,kQd,kQe]
 rw[kQq (by simp [hs]),kQq (by simp [hs,hr])]
 simp [hs,hr]
theorem HB_set_made (made m2:Bool) (s:List UInt32) (rest:List UInt8) (n:Nat):(HB made s rest n).setIfInBounds 0 (.bool m2)=HB m2 s rest n:=by simp [HB,HBl]
theorem HB_set_s (made:Bool) (s:List UInt32) (rest:List UInt8) (n:Nat) (i:Nat) (hi:i<s.length) (x:UInt32):(HB made s rest n).setIfInBounds (1+i) (.int .u32 (x.toNat:Int))=HB made (s.set i x) rest n:=by
 simp only [HB,HBl,pq1,Nat.add_comm 1,pq3]
 rw[List.set_append_left _ _ (by simpa using hi),List.map_set]
theorem HB_set_n (made:Bool) (s:List UInt32) (rest:List UInt8) (n m:Nat) (hs:s.length=8) (hr:rest.length=64):(HB made s rest n).setIfInBounds 73 (.int .u64 (m:Int))=HB made s rest m:=by
 simp only [HB,HBl,pq1,pq3]
 rw[List.set_append_right _ _ (by simp [hs]),List.set_append_right _ _ (by simp [hs,hr])]
 simp [hs,hr]
def chL (v:List UInt32):UInt32:=v.getD 6 0 ^^^ (v.getD 4 0 &&& (v.getD 5 0 ^^^ v.getD 6 0))
def mjL (v:List UInt32):UInt32:=(v.getD 0 0 &&& v.getD 1 0) ||| (v.getD 2 0 &&& (v.getD 0 0 ||| v.getD 1 0))
def xL (k w:UInt32) (v:List UInt32):UInt32:=v.getD 7 0+(rotr (v.getD 4 0) 6 ^^^ rotr (v.getD 4 0) 11 ^^^ rotr (v.getD 4 0) 25)+chL v+k+w
def yL (v:List UInt32):UInt32:=(rotr (v.getD 0 0) 2 ^^^ rotr (v.getD 0 0) 13 ^^^ rotr (v.getD 0 0) 22)+mjL v
def roundL (k w:UInt32) (v:List UInt32):List UInt32:=[xL k w v+yL v,v.getD 0 0,v.getD 1 0,v.getD 2 0,v.getD 3 0+xL k w v,v.getD 4 0,v.getD 5 0,v.getD 6 0]
def qWC (ks ws:List UInt32) (v:List UInt32):Nat→List UInt32
 | 0=>v
 | t+1=>roundL (ks.getD t 0) (ws.getD t 0) (qWC ks ws v t)
theorem qWB (ks ws:List UInt32) (v:List UInt32) (hv:v.length=8) (t:Nat):(qWC ks ws v t).length=8:=by
 cases t with
 | zero=>exact hv
 | succ t=>rfl
def sumK (s v:List UInt32):Nat→List UInt32
 | 0=>s
 | i+1=>(sumK s v i).set i ((sumK s v i).getD i 0+v.getD i 0)
theorem qV8 (s v:List UInt32) (i:Nat):(sumK s v i).length=s.length:=by
 induction i with
 | zero=>rfl
 | succ i ih=>simp [sumK,ih]
def qYj (s:List UInt32) (b:List UInt8):List UInt32:=sumK s (qWC constL (qQS b 64) s 64) 8
theorem qKd (s:List UInt32) (b:List UInt8):(qYj s b).length=s.length:=qV8 _ _ _
structure HSt where
 s:List UInt32
 rest:List UInt8
 n:Nat
structure HSt.ok (h:HSt):Prop where
 hs:h.s.length=8
 hr:h.rest.length=64
def startH:HSt:=⟨qVc,kQc 64 0,0⟩
theorem startH_ok:startH.ok:=⟨rfl,by simp [startH]⟩
def layL (rest:List UInt8) (p:Nat) (l:List UInt8):List UInt8:=rest.take p++(l++rest.drop (p+l.length))
theorem qW6 (rest:List UInt8) (p:Nat) (l:List UInt8) (h:p+l.length≤rest.length):(layL rest p l).length=rest.length:=by
 simp [layL];omega
theorem layL_full (rest:List UInt8) (l:List UInt8) (h:l.length=rest.length):layL rest 0 l=l:=by
 simp [layL,h]
def qKo (h:HSt) (l:List UInt8):HSt:=
 if (h.n+l.length) % 64=0 then⟨qYj h.s (layL h.rest (h.n % 64) l),layL h.rest (h.n % 64) l,h.n+l.length⟩else⟨h.s,layL h.rest (h.n % 64) l,h.n+l.length⟩
def putB (h:HSt) (c:UInt8):HSt:=qKo h [c]
theorem stepW_ok {h:HSt} (k:h.ok) (l:List UInt8) (hl:h.n % 64+l.length≤64):(qKo h l).ok:=by
 have e:(layL h.rest (h.n % 64) l).length=64:=by rw [qW6 _ _ _ (by rw [k.hr];exact hl),k.hr]
 unfold qKo
 split
 ·exact⟨by simp [qKd,k.hs],e⟩
 ·exact⟨k.hs,e⟩
theorem putB_ok {h:HSt} (k:h.ok) (c:UInt8):(putB h c).ok:=stepW_ok k [c] (by simp;omega)
def qXz (h:HSt) (l:List UInt8):HSt:=l.foldl putB h
theorem qWq {h:HSt} (k:h.ok):∀(l:List UInt8),(qXz h l).ok:=by
 intro l
 induction l generalizing h with
 | nil=>exact k
 | cons c l ih=>exact ih (putB_ok k c)
theorem qXb (h:HSt) (l l':List UInt8):qXz h (l++l')=qXz (qXz h l) l':=by simp [qXz]
theorem stepW_n (h:HSt) (l:List UInt8):(qKo h l).n=h.n+l.length:=by unfold qKo;split<;>rfl
theorem putB_n (h:HSt) (c:UInt8):(putB h c).n=h.n+1:=stepW_n h [c]
theorem qJc (h:HSt):∀(l:List UInt8),(qXz h l).n=h.n+l.length:=by
 intro l
 induction l generalizing h with
 | nil=>rfl
 | cons c l ih=>
  show(qXz (putB h c) l).n=_
  rw[ih,putB_n,List.length_cons]
  omega
theorem layL_cons (rest:List UInt8) (p:Nat) (c:UInt8) (l:List UInt8) (h:p<rest.length):layL (layL rest p [c]) (p+1) l=layL rest p (c::l):=by
 have e1:(layL rest p [c]).take (p+1)=rest.take p++[c]:=by
  have:(rest.take p++[c]).length=p+1:=by simp;omega
  unfold layL
  rw[←List.append_assoc,List.take_append_of_le_length (by omega),kQn (by omega)]
 have e2:(layL rest p [c]).drop (p+1+l.length)=rest.drop (p+1+l.length):=by
  have:(rest.take p++[c]).length=p+1:=by simp;omega
  unfold layL
  rw[←List.append_assoc,List.drop_append,kQt (by omega),this,List.drop_drop]
  simp
 rw[layL,e1,e2,layL]
 simp [Nat.add_assoc,Nat.add_comm 1]
theorem qYy (h:HSt) (k:h.ok):∀(l:List UInt8),l≠[]→h.n % 64+l.length≤64→qXz h l=qKo h l:=by
 intro l
 induction l generalizing h with
 | nil=>intro h0;exact absurd rfl h0
 | cons c l ih=>
  intro _ hl
  simp only [List.length_cons]at hl
  by_cases h0:l=[]
  ·subst h0;rfl
  ·have hlen:0<l.length:=List.length_pos_iff.2 h0
   show qXz (putB h c) l=_
   rw[ih _ (putB_ok k c) h0 (by rw [putB_n];omega)]
   have e:putB h c=⟨h.s,layL h.rest (h.n % 64) [c],h.n+1⟩:=by
    unfold putB qKo
    rw[if_neg (by simp;omega)]
    rfl
   have em:(h.n+1) % 64=h.n % 64+1:=by omega
   rw[e]
   unfold qKo
   simp only [em,List.length_cons]
   rw[layL_cons _ _ _ _ (by rw [k.hr];omega),show h.n+1+l.length=h.n+(l.length+1) by omega]
theorem putsB_block (h:HSt) (k:h.ok) (l:List UInt8) (h0:h.n % 64=0) (hl:l.length=64):qXz h l=⟨qYj h.s l,l,h.n+64⟩:=by
 rw[qYy h k l (by intro e;rw [e]at hl;cases hl) (by omega)]
 unfold qKo
 rw[h0,layL_full _ _ (by rw [k.hr,hl]),hl,if_pos (by omega)]
def beLs:Nat→Nat→List UInt8
 | 0,_=>[]
 | k+1,x=>UInt8.ofNat (x/2 ^ (8*k))::beLs k x
theorem qWj (k x:Nat):(beLs k x).length=k:=by
 induction k with
 | zero=>rfl
 | succ k ih=>simp [beLs,ih]
def qXQ (n:Nat):Nat:=(55+64-n % 64) % 64
def tailL (n:Nat):List UInt8:=0x80::(kQc (qXQ n) 0++beLs 8 (n*8 % 18446744073709551616))
def outL (s:List UInt32):List UInt8:=(List.range 32).map fun i=>(s.getD (i/4) 0 >>> UInt32.ofNat (8*(3-i % 4))).toUInt8
theorem qW3 (s:List UInt32):(outL s).length=32:=by simp [outL]
def sumH (h:HSt):List UInt8:=outL (qXz h (tailL h.n)).s
theorem sumH_length (h:HSt):(sumH h).length=32:=qW3 _
def qZ8 (l:List UInt8):List UInt8:=sumH (qXz startH l)
theorem qZW (l:List UInt8):(qZ8 l).length=32:=qW3 _
end Go.Proofs.YtlocplkjokoknaaGreat
namespace Go.Proofs.YtlocplkjokoknaaGreat
open Go.RowKit
attribute [local go_sem ↓] Go.wp_at_zero Go.wp_at_succ
theorem HB_range (made:Bool) (s:List UInt32) (rest:List UInt8) (n:Nat) (w:World) (g:Nat) (t:TypeId) (h:w.heap[g]?=some (.cells (HB made s rest n) t (0,0))):w.rangeAt g 1 (s.map fun x=>Value.int .u32 (x.toNat:Int)):=by
 intro j v hj
 have hjl:j<s.length:=by have:=(List.getElem?_eq_some_iff.1 hj).1;simpa using this
 have h2:=HB_s made s rest n j hjl
 rw[List.getElem?_map,kQi hjl]at hj
 cases hj
 refine qQg h (1+j) ?_
 rw[h2]
 simp [kQa,hjl]
theorem HB_RdB (made:Bool) (s:List UInt32) (rest:List UInt8) (n:Nat) (hs:s.length=8) (w:World) (g:Nat) (t:TypeId) (h:w.heap[g]?=some (.cells (HB made s rest n) t (0,0))):RdB w (some ⟨g,9,none⟩) rest:=fun j hj=>
 ⟨g,9,rfl,qQg h (9+j) (HB_rest made s rest n hs j hj)⟩
theorem list8:∀(v:List UInt32),v.length=8→v=[v.getD 0 0,v.getD 1 0,v.getD 2 0,v.getD 3 0,v.getD 4 0,v.getD 5 0,v.getD 6 0,v.getD 7 0]
 | [_,_,_,_,_,_,_,_],_=>rfl
theorem qWW (x y:UInt32):∃z:UInt32,Hid (z=x+y)∧IntKind.u32.wrap ((x.toNat:Int)+(y.toNat:Int))=(z.toNat:Int):=⟨_,rfl,by rw [IntKind.wrap_u32,qZY]⟩
theorem qYZ (a b c:UInt32):∃z:UInt32,Hid (z=a ^^^ b ^^^ c)∧bits .xor .u32 (bits .xor .u32 (a.toNat:Int) (b.toNat:Int)) (c.toNat:Int)=(z.toNat:Int):=⟨_,rfl,by rw [qXf,qXf]⟩
theorem copy_wp {P:Program} {o:Oper} {a:Act} {w:World} {K:Act→World→Prop} {Q:Exit→Act→World→Prop} (d s:Operand) (dT sT:TypeId) (ho:o.op=.call { callee:=.builtin .copy,args:=#[d,s],argTypes:=#[dT,sT] }) (elem:TypeId) (hu:P.underlying dT=some (.slice elem)) (hsz:(P.info? elem).map (·.size)=some 1)
  (g off dLen dCap:Nat) (ad:Addr) (sLen sCap:Nat) (hd:a.eval d=.slice (some ⟨g,off,none⟩) dLen dCap) (hs:a.eval s=.slice (some ad) sLen sCap)
  (cur:Array Value) (t:TypeId) (hg:w.heap[g]?=some (.cells cur t (0,0))) (cs:List Value) (hn:cs.length=Nat.min sLen dLen)
  (hsrc:∀j v,cs[j]?=some v→w.cell? (ad.add j)=some v) (hfit:off+cs.length≤cur.size) (h1:∀v∈cs,v.oneCell'=true)
  (h:K (a.put o.dst (goInt cs.length)) (w.setRow g (cur.toList.take off++cs++cur.toList.drop (off+cs.length)).toArray)):o.wp P a w K Q:=by
 have hrun:=run_copy_row (P:=P) w dT sT o.type elem g off dLen dCap ad sLen sCap cur t cs hu hsz hg hn hsrc hfit h1
 unfold Oper.wp execOp
 simp only [ho,resolve,invoke,builtin,Sem.run_bind,Sem.run_pure,Result.andThen_ok,kQs,kQw,List.map_nil,hd,hs,hrun]
 exact h
theorem shift8 (v0 v1 v2 v3 v4 v5 v6 v7:UInt32):((W32 [v0,v1,v2,v3,v4,v5,v6,v7]).toList.take 1++([v0,v1,v2,v3,v4,v5,v6].map fun x=>Value.int .u32 (x.toNat:Int))++(W32 [v0,v1,v2,v3,v4,v5,v6,v7]).toList.drop (1+([v0,v1,v2,v3,v4,v5,v6].map fun x=>Value.int .u32 (x.toNat:Int)).length)).toArray=W32 [v0,v0,v1,v2,v3,v4,v5,v6]:=by simp [W32]
def zero64L:List UInt32:=kQc 64 0
def zero8L:List UInt32:=kQc 8 0
structure TkW (w:World) (g:Nat) (made:Bool) (s:List UInt32) (rest:List UInt8) (n:Nat) (A:Nat) (v:List UInt32) (W:World):Prop where
 hb:W.heap[g]?=some (.cells (HB made s rest n) 201 (0,0))
 bw:W.heap[A]?=some (.cells (W32 (qQS rest 64)) 205 (0,0))
 bk:W.heap[A+1]?=some (.cells (W32 constL) 205 (0,0))
 bv:W.heap[A+2]?=some (.cells (W32 v) 198 (0,0))
 gr:w.grownBy W (some g)
theorem TkW.step {w W W':World} {g A:Nat} {made:Bool} {s v v':List UInt32} {rest:List UInt8} {n:Nat} (h:TkW w g made s rest n A v W) (hgr:W.grownBy W' (some (A+2))) (GA:g<A) (WA:w.heap.size≤A) (hv:W'.heap[A+2]?=some (.cells (W32 v') 198 (0,0))):TkW w g made s rest n A v' W' where
 hb:=qQd hgr (by simp;omega) h.hb
 bw:=qQd hgr (by simp) h.bw
 bk:=qQd hgr (by simp) h.bk
 bv:=hv
 gr:=⟨hgr.os.trans h.gr.os,hgr.tape.trans h.gr.tape,hgr.output.trans h.gr.output,kQk h.gr.size hgr.size,fun k hk hne=>(hgr.block k (kQb hk h.gr.size) (by simp;omega)).trans (h.gr.block k hk hne)⟩
theorem take_any (g:Nat) (made:Bool) (s:List UInt32) (rest:List UInt8) (n:Nat) (hs:s.length=8) (hr:rest.length=64) (w:World) (h:w.heap[g]?=some (.cells (HB made s rest n) 201 (0,0))) :
  Calls Tryz.prog 107 #[.pointer (some ⟨g,1,none⟩),.pointer (some ⟨g,9,none⟩)] w fun e w'=>e=.returned (.tuple #[])∧w'.heap[g]?=some (.cells (HB made (qYj s rest) rest n) 201 (0,0))∧w.grownBy w' (some g):=by
 have HS:=Lh hs
 have HR:=Lh hr
 have H:=Lh h
 have LS:=Lh (qQ1 rest 64)
 have ZW:=Lh (show(Tryz.prog.info? 205).map (·.size)=some (W32 (qQS rest 64)).size by rw [qQA,LS.out];kernel_rfl)
 have ZC:=Lh (show(Tryz.prog.info? 205).map (·.size)=some (W32 constL).size by kernel_rfl)
 have ZS:=Lh (show(Tryz.prog.info? 198).map (·.size)=some (s.map fun x=>Value.int .u32 (x.toNat:Int)).length by rw [List.length_map,HS.out];kernel_rfl)
 have ZS2:=Lh (show(Tryz.prog.info? 198).map (·.size)=some (W32 s).size by rw [qQA,HS.out];kernel_rfl)
 clear hs hr h
 go_enter Tryz.func107,Tryz.ntmps107
 go_wp2_with fail
 refine(schedule_any rest HR.out w g 9 (HB_RdB made s rest n HS.out w g _ H.out) (qQe H.out)).mono ?_
 rintro e w1 ⟨rfl,hb1⟩
 obtain⟨sw,hsw⟩:∃sw,sw=qQS rest 64:=⟨_,rfl⟩
 rw[←hsw]at LS ZW ⊢
 have SW:=Lh hsw
 clear hsw
 have B1:=Lh hb1
 clear hb1
 go_wp2_with fail
 refine(constants_any w1).mono ?_
 rintro e w2 ⟨rfl,hb2⟩
 obtain⟨kc,hkc⟩:∃kc,kc=constL:=⟨_,rfl⟩
 rw[←hkc]at ZC ⊢
 have KC:=Lh hkc
 have LK:=Lh (show kc.length=64 by rw [hkc];rfl)
 have B2:=Lh (B1.out.trans (hb2.mono B1.out.size))
 clear hkc hb2 B1
 obtain⟨A,hA⟩:∃A,A=w2.heap.size:=⟨_,rfl⟩
 have GA:=Lh (show g<A by have:=qQe H.out;have:=B2.out.size;omega)
 have WA:=Lh (show w.heap.size≤A by have:=B2.out.size;omega)
 have G2:=Lh (qQb B2.out (qQe H.out) H.out)
 go_upto_region 1 with (first
  | (refine qQf rfl rfl 205 (.tmp 4) (.tmp 16) rfl w2.heap.size (W32 sw) rfl rfl 205 (W32 zero64L) (qQM _ _ _ (by simp) (qQk _ _ _ rfl)) ZW.out (by rw [qQA,qQA,LS.out];rfl) (qZt _) ?_;intro w3 hg3 hgr3 hs3)
  | (refine qQf rfl rfl 205 (.tmp 5) (.tmp 17) rfl (w2.heap.size+1) (W32 kc) rfl rfl 205 (W32 zero64L) (qQd hgr3 (by simp) (qQk _ _ _ (by simp))) ZC.out (by rw [qQA,qQA,LK.out];rfl) (qZt _) ?_;intro w4 hg4 hgr4 hs4))
 have F0:=Lh (qQd hgr4 (by simp) hg3)
 have F1:=Lh hg4
 have S4:=Lh (show w4.heap.size=A+2 by rw [hs4,hs3,qQD,qQD,hA])
 have G4:=Lh (show Below w.heap.size w w4 from
  ((B2.out.alloc B2.out.size _).alloc (by have:=B2.out.size;simp;omega) _).trans ((qQi hgr3 (by have:=B2.out.size;simp;omega) (fun k e=>by have:=B2.out.size;cases e;omega)).trans (qQi hgr4 (by rw [hs3];have:=B2.out.size;simp;omega) (fun k e=>by have:=B2.out.size;cases e;omega))))
 rw[←hA]at F0 F1 ⊢
 have H4:=Lh (qQb G4.out (qQe H.out) H.out)
 clear hg3 hgr3 hs3 hg4 hgr4 hs4 hA w3 B2 G2
 go_upto_region 2 with (first
  | (refine wpList_load_mid rfl 198 (.tmp 19) rfl g 1 rfl (s.map fun x=>Value.int .u32 (x.toNat:Int)) _ (HB_range made s rest n w4 g _ H4.out) Tryz.underlying198 rfl ZS.out ?_)
  | (refine qQp rfl rfl 198 (.tmp 6) (.tmp 20) rfl (W32 s) rfl rfl ZS2.out (by rw [qQA,HS.out];rfl) (qZt _) ?_))
 have T5:=Lh (show TkW w g made s rest n A s (w4.alloc (.cells (W32 s) 198))from
  ⟨qQM _ _ _ (qQe H4.out) H4.out,by rw [←SW.out];exact qQM _ _ _ (qQe F0.out) F0.out,by rw [←KC.out];exact qQM _ _ _ (qQe F1.out) F1.out,qQk _ _ _ S4.out.symm,
   by have h1:=G4.out.alloc G4.out.size (.cells (W32 s) 198);exact⟨h1.os,h1.tape,h1.output,h1.size,fun k hk _=>h1.block k hk⟩⟩)
 rw[S4.out]
 obtain⟨w5,hw5⟩:∃w5,w5=w4.alloc (.cells (W32 s) 198):=⟨_,rfl⟩
 rw[←hw5]at T5 ⊢
 clear hw5 H4 G4 S4 F0 F1 w4
 go_wp2_with fail
 go_loopw [21] (fun i wr=>∃t:Nat,t≤64∧i=.int .i64 (t:Int)∧TkW w g made s rest n A (qWC constL (qQS rest 64) s t) wr) (fun i _=>64-(intOf i).toNat)
 case atStart=>exact⟨0,by omega,rfl,T5.out⟩
 case round=>
  obtain⟨t,ht,rfl,h6⟩:=hrel
  have T6:=Lh h6
  clear h6 T5 w5
  by_cases hlt:t<64
  ·have hD:decide ((t:Int)<64)=true:=by simp;omega
   obtain⟨v,hv⟩:∃v,v=qWC constL (qQS rest 64) s t:=⟨_,rfl⟩
   rw[←hv]at T6
   have VE:=Lh hv
   have VL:=Lh (show v.length=8 by rw [hv];exact qWB _ _ _ HS.out _)
   clear hv
   obtain⟨v0,d0⟩:∃x,x=v.getD 0 0:=⟨_,rfl⟩
   obtain⟨v1,d1⟩:∃x,x=v.getD 1 0:=⟨_,rfl⟩
   obtain⟨v2,d2⟩:∃x,x=v.getD 2 0:=⟨_,rfl⟩
   obtain⟨v3,d3⟩:∃x,x=v.getD 3 0:=⟨_,rfl⟩
   obtain⟨v4,d4⟩:∃x,x=v.getD 4 0:=⟨_,rfl⟩
   obtain⟨v5,d5⟩:∃x,x=v.getD 5 0:=⟨_,rfl⟩
   obtain⟨v6,d6⟩:∃x,x=v.getD 6 0:=⟨_,rfl⟩
   obtain⟨v7,d7⟩:∃x,x=v.getD 7 0:=⟨_,rfl⟩
   have V:Hid (v=[v0,v1,v2,v3,v4,v5,v6,v7]):=by
    show v=_
    rw[d0,d1,d2,d3,d4,d5,d6,d7]
    exact list8 v VL.out
   have a0:=qQg T6.out.bv 0 (qQZ v 0 (by rw [VL.out];omega))
   have a4:=qQg T6.out.bv 4 (qQZ v 4 (by rw [VL.out];omega))
   rw[←d0]at a0
   rw[←d4]at a4
   have D0:=Lh d0
   have D1:=Lh d1
   have D2:=Lh d2
   have D3:=Lh d3
   have D4:=Lh d4
   have D5:=Lh d5
   have D6:=Lh d6
   have D7:=Lh d7
   clear d0 d1 d2 d3 d4 d5 d6 d7
   go_wp2_with fail
   go_region
   obtain⟨w6,hw6⟩:∃w6,w6=wr.drew:=⟨_,rfl⟩
   have T7:=Lh (show TkW w g made s rest n A v w6 by rw [hw6];exact⟨T6.out.hb,T6.out.bw,T6.out.bk,T6.out.bv,qZS T6.out.gr⟩)
   rw[←hw6]
   clear hw6 a0 a4 T6 wr
   have a1:=qQg T7.out.bv 1 (qQZ v 1 (by rw [VL.out];omega))
   have a2:=qQg T7.out.bv 2 (qQZ v 2 (by rw [VL.out];omega))
   have a5:=qQg T7.out.bv 5 (qQZ v 5 (by rw [VL.out];omega))
   have a6:=qQg T7.out.bv 6 (qQZ v 6 (by rw [VL.out];omega))
   rw[←D1.out]at a1
   rw[←D2.out]at a2
   rw[←D5.out]at a5
   rw[←D6.out]at a6
   obtain⟨ch,hch,e1⟩:∃z:UInt32,Hid (z=v6 ^^^ (v4 &&& (v5 ^^^ v6)))∧bits .xor .u32 (v6.toNat:Int) (bits .and .u32 (v4.toNat:Int) (bits .xor .u32 (v5.toNat:Int) (v6.toNat:Int)))=(z.toNat:Int):=⟨_,rfl,by rw [qXf,qWn,qXf]⟩
   obtain⟨mj,hmj,e2⟩:∃z:UInt32,Hid (z=(v0 &&& v1) ||| (v2 &&& (v0 ||| v1)))∧bits .or .u32 (bits .and .u32 (v0.toNat:Int) (v1.toNat:Int)) (bits .and .u32 (v2.toNat:Int) (bits .or .u32 (v0.toNat:Int) (v1.toNat:Int)))=(z.toNat:Int):=⟨_,rfl,by rw [u32_or' v0 v1,qWn,qWn,u32_or']⟩
   go_wp2_with fail
   clear a1 a2 a5 a6 e1 e2
   have a7:=qQg T7.out.bv 7 (qQZ v 7 (by rw [VL.out];omega))
   rw[←D7.out]at a7
   obtain⟨kt,hkt⟩:∃x,x=constL.getD t 0:=⟨_,rfl⟩
   obtain⟨wt,hwt⟩:∃x,x=(qQS rest 64).getD t 0:=⟨_,rfl⟩
   have ak:=qQg T7.out.bk t (qQZ _ t (by rw [qJJ];exact hlt))
   have aw:=qQg T7.out.bw t (qQZ _ t (by rw [qQ1];exact hlt))
   rw[←hkt]at ak
   rw[←hwt]at aw
   have KT:=Lh hkt
   have WT:=Lh hwt
   clear hkt hwt
   obtain⟨z0,hz0,e0⟩:=qYZ (rotr v4 6) (rotr v4 11) (rotr v4 25)
   obtain⟨z1,hz1,e1⟩:=qWW v7 z0
   obtain⟨z2,hz2,e2⟩:=qWW z1 ch
   obtain⟨z3,hz3,e3⟩:=qWW z2 kt
   obtain⟨x,hx,e4⟩:=qWW z3 wt
   have b1:(t:Int)<64:=by omega
   go_still_tail 21,(by kernel_rfl)
   still_call (qZJ _ 6 _ (by omega) (by omega) (by decide))
   repeat still_step
   still_call (qZJ _ 11 _ (by omega) (by omega) (by decide))
   repeat still_step
   still_call (qZJ _ 25 _ (by omega) (by omega) (by decide))
   repeat still_step
   refine wpStill_nil ?_
   change wpList _ _ _ _ _ w6.drew
   clear a7 ak aw e0 e1 e2 e3 e4
   obtain⟨w7,hw7⟩:∃w7,w7=w6.drew:=⟨_,rfl⟩
   have T8:=Lh (show TkW w g made s rest n A v w7 by rw [hw7];exact⟨T7.out.hb,T7.out.bw,T7.out.bk,T7.out.bv,qZS T7.out.gr⟩)
   rw[←hw7]
   clear hw7 T7 w6
   obtain⟨y0,hy0,e0⟩:=qYZ (rotr v0 2) (rotr v0 13) (rotr v0 22)
   obtain⟨y,hy,e1⟩:∃z:UInt32,Hid (z=y0+mj)∧((y0.toNat:Int)+(mj.toNat:Int)) % 4294967296=(z.toNat:Int):=⟨_,rfl,qZY _ _⟩
   have E0:=Lh e0
   have E1:=Lh e1
   clear e0 e1
   go_wp2_with fail
   refine(qZJ v0 2 _ (by omega) (by omega) (by decide)).mono ?_
   rintro e w' ⟨rfl,rfl⟩
   go_wp2_with fail
   refine(qZJ v0 13 _ (by omega) (by omega) (by decide)).mono ?_
   rintro e w' ⟨rfl,rfl⟩
   go_wp2_with fail
   refine(qZJ v0 22 _ (by omega) (by omega) (by decide)).mono ?_
   rintro e w' ⟨rfl,rfl⟩
   have e0:=E0.out
   have e1:=E1.out
   go_wp2_with fail
   rw[E1.out]
   clear e0 e1 E0 E1
   obtain⟨j0,hj0,hj1,hj2,_⟩:=info_parts (show(Tryz.prog.info? 153).map (fun i=>(i.zero,i.size,i.bytes))=some (some (.int .u32 0),1,4) by kernel_rfl)
   have J0:=Lh hj0
   have J2:=Lh hj2
   clear hj0 hj1 hj2
   refine qZl (fun _=>True) [0,1] [2] (by kernel_rfl) (by kernel_rfl) (fun _ _ d _ _ h=>by cases d<;>exact h) (trivial) ?_
   simp only [kQl,kQm,kQd,kQg,kQe]
   refine qQm (by rfl) (fun W hW=>qVm 198 (.tmp 6) (.const (.int .i64 1)) rfl 8 153 Tryz.underlying198 J0.out J2.out .i64 (A+2) 0 1 (by omega) rfl rfl W) ?_
   simp only [Act.put,pq1,pq2,pq3]
   refine qQm (by rfl) (fun W hW=>qJX 198 (.tmp 6) (.const (.int .i64 7)) rfl 8 153 Tryz.underlying198 J0.out (A+2) 7 (by omega) rfl rfl W) ?_
   simp only [Act.put,pq1,pq2,pq3]
   refine qXE ?_
   refine qXi (by rfl) (fun K hK=>?_)
   have BV:Hid (w'.drew.heap[A+2]?=some (.cells (W32 [v0,v1,v2,v3,v4,v5,v6,v7]) 198 (0,0))):=by
    have:=T8.out.bv
    rw[V.out]at this
    exact this
   refine copy_wp (.tmp 81) (.tmp 82) _ _ rfl 153 Tryz.underlying207 (by kernel_rfl) (A+2) 1 7 7 ⟨A+2,0,none⟩ 7 8 rfl rfl _ _ BV.out ([v0,v1,v2,v3,v4,v5,v6].map fun x=>Value.int .u32 (x.toNat:Int)) rfl ?cp1 (by simp [W32]) ?cp2 ?_
   case cp1=>
    intro j u hj
    rw[qXZ,Nat.zero_add]
    refine qQg BV.out j ?_
    simp only [W32]
    rcases j with _|_|_|_|_|_|_|j<;>simp at hj ⊢ <;> exact hj
   case cp2=>
    intro u hu
    simp only [List.mem_map]at hu
    obtain⟨q,_,rfl⟩:=hu
    rfl
   rw[shift8]
   refine hK.out _ _ (trivial) ?_
   clear hK K
   simp only [Act.put]
   refine qXD ?_
   have T9:=Lh (show TkW w g made s rest n A [v0,v0,v1,v2,v3,v4,v5,v6] (w'.drew.setRow (A+2) (W32 [v0,v0,v1,v2,v3,v4,v5,v6]))from by
    have hgr:w'.drew.grownBy (w'.drew.setRow (A+2) (W32 [v0,v0,v1,v2,v3,v4,v5,v6])) (some (A+2)):=⟨rfl,rfl,rfl,by simp,fun k hk hne=>setRow_other _ _ k _ (fun e=>hne (by rw [e]))⟩
    have T8d:TkW w g made s rest n A v w'.drew:=⟨T8.out.hb,T8.out.bw,T8.out.bk,T8.out.bv,qZS T8.out.gr⟩
    exact T8d.step hgr GA.out WA.out (setRow_heap _ _ _ _ _ _ BV.out))
   obtain⟨w8,hw8⟩:∃w8,w8=w'.drew.setRow (A+2) (W32 [v0,v0,v1,v2,v3,v4,v5,v6]):=⟨_,rfl⟩
   rw[←hw8]at T9 ⊢
   clear hw8 BV T8
   have a4:=qQg T9.out.bv 4 (qQZ _ 4 (by simp))
   have f4:=qQz T9.out.bv 4
   change w8.cell? ⟨A+2,4,none⟩=some (.int .u32 (v3.toNat:Int))at a4
   go_upto_region 12 with fail
   clear a4 f4
   rw[qZY]
   obtain⟨w9,hw9⟩:∃w9,w9=w8.setCell ⟨A+2,4,none⟩ (.int .u32 ((v3+x).toNat:Int)):=⟨_,rfl⟩
   have T10:=Lh (show TkW w g made s rest n A [v0,v0,v1,v2,v3+x,v4,v5,v6] w9 from by
    rw[hw9]
    exact T9.out.step (qQF (World.grownBy.refl _ _) _ _) GA.out WA.out (by rw [heap_setCell_same _ _ _ _ _ _ T9.out.bv,qVD];rfl))
   rw[←hw9]
   clear hw9 T9 w8
   have a0:=qQg T10.out.bv 0 (qQZ _ 0 (by simp))
   have f0:=qQz T10.out.bv 0
   go_wp2_with fail
   clear a0 f0
   rw[qZY]
   have T11:=Lh (show TkW w g made s rest n A [x+y,v0,v1,v2,v3+x,v4,v5,v6] (w9.setCell ⟨A+2,0,none⟩ (.int .u32 ((x+y).toNat:Int)))from
    T10.out.step (qQF (World.grownBy.refl _ _) _ _) GA.out WA.out (by rw [heap_setCell_same _ _ _ _ _ _ T10.out.bv,qVD];rfl))
   go_roundw
   case rel=>
    refine⟨t+1,by omega,by go_num,?_⟩
    have hxL:xL kt wt v=x:=by
     unfold xL chL
     rw[←D4.out,←D5.out,←D6.out,←D7.out,←hch.out,←hz0.out,←hz1.out,←hz2.out,←hz3.out,←hx.out]
    have hyL:yL v=y:=by
     unfold yL mjL
     rw[←D0.out,←D1.out,←D2.out,←hmj.out,←hy0.out,←hy.out]
    rw[qWC,←VE.out,←KT.out,←WT.out,roundL,hxL,hyL,←D0.out,←D1.out,←D2.out,←D3.out,←D4.out,←D5.out,←D6.out]
    exact T11.out
   case measure=>simp [intOf];omega
  ·have ht64:Hid (t=64):=show t=64 by omega
   have hD:decide ((t:Int)<64)=false:=by simp;omega
   obtain⟨v,hv⟩:∃v,v=qWC constL (qQS rest 64) s t:=⟨_,rfl⟩
   rw[←hv]at T6
   have VE:=Lh hv
   have VL:=Lh (show v.length=8 by rw [hv];exact qWB _ _ _ HS.out _)
   clear hv
   go_wp2_with fail
   go_loopw [94] (fun i wr=>∃j:Nat,j≤8∧i=.int .i64 (j:Int)∧TkW w g made (sumK s v j) rest n A v wr) (fun i _=>8-(intOf i).toNat)
   case atStart=>exact⟨0,by omega,rfl,T6.out⟩
   case round=>
    clear hD hlt ht
    obtain⟨j,hj,rfl,h8⟩:=hrel
    have T8:=Lh h8
    clear h8 T6
    have SL:=Lh (show(sumK s v j).length=8 by rw [qV8];exact HS.out)
    by_cases hlt:j<8
    ·have hD:decide ((j:Int)<8)=true:=by simp;omega
     have a1:=qQg T8.out.hb (1+j) (HB_s made _ rest n j (by rw [SL.out];exact hlt))
     have f1:=qQz T8.out.hb (1+j)
     have a2:=qQg T8.out.bv j (qQZ _ j (by rw [VL.out];exact hlt))
     obtain⟨x,hx⟩:∃x,x=(sumK s v j).getD j 0:=⟨_,rfl⟩
     obtain⟨y,hy⟩:∃x,x=v.getD j 0:=⟨_,rfl⟩
     rw[←hx]at a1
     rw[←hy]at a2
     have X:=Lh hx
     have Y:=Lh hy
     clear hx hy
     go_wp2_with fail
     go_region
     clear a1 a2 f1
     go_wp2_with fail
     rw[qZY]
     have T9:=Lh (show TkW w g made (sumK s v (j+1)) rest n A v (wr.setCell ⟨g,1+j,none⟩ (.int .u32 ((x+y).toNat:Int))).drew from by
      have hgr:wr.grownBy (wr.setCell ⟨g,1+j,none⟩ (.int .u32 ((x+y).toNat:Int))).drew (some g):=qZS (qQF (World.grownBy.refl _ _) _ _)
      have:=GA.out
      refine⟨?_,qQd hgr (by simp;omega) T8.out.bw,qQd hgr (by simp;omega) T8.out.bk,qQd hgr (by simp;omega) T8.out.bv,World.grownBy.trans T8.out.gr hgr⟩
      show(wr.setCell ⟨g,1+j,none⟩ (.int .u32 ((x+y).toNat:Int))).heap[g]?=_
      rw[heap_setCell_same _ _ _ _ _ _ T8.out.hb,HB_set_s made _ rest n j (by rw [SL.out];exact hlt),sumK,←X.out,←Y.out])
     go_roundw
     case rel=>exact⟨j+1,by omega,by go_num,T9.out⟩
     case measure=>simp [intOf];omega
    ·have hj8:Hid (j=8):=show j=8 by omega
     have hD:decide ((j:Int)<8)=false:=by simp;omega
     go_wp2_with fail
     go_end0
     refine⟨rfl,?_,T8.out.gr⟩
     have:=T8.out.hb
     rw[hj8.out,VE.out,ht64.out]at this
     exact this
def HBx (made:Bool) (h:HSt):Array Value:=HB made h.s h.rest h.n
theorem run_newhash {o:Oper} {a:Act} (ho:o.op=.build 201 #[(0,.const (.bool true)),(1,.tmp 1)]) (h:a.eval (.tmp 1)=.agg (W32 qVc)) (W:World):(execOp a.eval o).run Tryz.prog W=.ok (.value (.agg (HBx true startH))) W:=by
 have h2:∀(g:Operand→Value) (W:World),g (.const (.bool true))=.bool true→g (.tmp 1)=.agg (W32 qVc)→(execOp g { o with op:=.build 201 #[(0,.const (.bool true)),(1,.tmp 1)] }).run Tryz.prog W=.ok (.value (.agg (HBx true startH))) W:=by
  intro g W h1 h2
  unfold execOp
  simp only [h1,h2,kQs,kQw,List.map_nil]
  kernel_rfl
 rw[show o={ o with op:=.build 201 #[(0,.const (.bool true)),(1,.tmp 1)] } by rw [←ho]]
 exact h2 _ W rfl h
theorem qYq (w:World):Calls Tryz.prog 86 #[] w fun e w'=>∃g,e=.returned (.pointer (some ⟨g,0,none⟩))∧w.heap.size≤g∧w'.heap[g]?=some (.cells (HBx true startH) 201 (0,0))∧Below w.heap.size w w':=by
 go_enter Tryz.func86,Tryz.ntmps86
 go_wp2_with fail
 refine(begin_any _).mono ?_
 rintro e w1 ⟨rfl,hb1⟩
 obtain⟨bl,hbl⟩:∃bl,bl=W32 qVc:=⟨_,rfl⟩
 rw[←hbl]
 have BL:=Lh hbl
 clear hbl
 go_wp2_with (refine qQa rfl (run_newhash rfl (by rw [←BL.out];rfl) _) ?_)
 go_ret
 exact⟨_,rfl,hb1.size,qQk _ _ _ rfl,hb1.alloc hb1.size _⟩
theorem HB_words (made:Bool) (s:List UInt32) (rest:List UInt8) (n:Nat) (hs:s.length=8) (v:List UInt32) (hv:v.length=8) :
  ((HB made s rest n).toList.take 1++((W32 v).toList++(HB made s rest n).toList.drop (1+(W32 v).size))).toArray=HB made v rest n:=by
 have e0:(HB made s rest n).toList=(Value.bool made::s.map fun x=>Value.int .u32 (x.toNat:Int))++(B8 rest++[Value.int .u64 (n:Int)]):=by simp [HB,HBl,B8]
 have l0:(Value.bool made::s.map fun x=>Value.int .u32 (x.toNat:Int)).length=9:=by simp [hs]
 have e2:(HB made s rest n).toList.drop (1+(W32 v).size)=B8 rest++[Value.int .u64 (n:Int)]:=by
  rw[e0,qQA,hv,show 1+8=(Value.bool made::s.map fun x=>Value.int .u32 (x.toNat:Int)).length by rw [l0],List.drop_left]
 rw[e2]
 simp [HB,HBl,B8,W32]
def stOf (made:Bool) (h:HSt):HSt:=if made then h else⟨qVc,h.rest,h.n⟩
theorem stOf_ok {h:HSt} (k:h.ok) (made:Bool):(stOf made h).ok:=by
 cases made
 ·exact⟨rfl,k.hr⟩
 ·exact k
theorem min_nat (a b:Nat):∃m:Nat,m=Nat.min a b∧m≤a∧m≤b∧(m=a∨m=b):=⟨_,rfl,Nat.min_le_left _ _,Nat.min_le_right _ _,by show min a b=a∨min a b=b;omega⟩
theorem HB_copy (made:Bool) (s:List UInt32) (rest:List UInt8) (n:Nat) (hs:s.length=8) (p:Nat) (l:List UInt8) (h:p+l.length≤rest.length) :
  ((HB made s rest n).toList.take (9+p)++(B8 l++(HB made s rest n).toList.drop (9+p+l.length))).toArray=HB made s (layL rest p l) n:=by
 have e0:(HB made s rest n).toList=(Value.bool made::s.map fun x=>Value.int .u32 (x.toNat:Int))++(B8 rest++[Value.int .u64 (n:Int)]):=by simp [HB,HBl,B8]
 have l0:(Value.bool made::s.map fun x=>Value.int .u32 (x.toNat:Int)).length=9:=by simp [hs]
 have e1:(HB made s rest n).toList.take (9+p)=(Value.bool made::s.map fun x=>Value.int .u32 (x.toNat:Int))++B8 (rest.take p):=by
  rw[e0,List.take_append,kQn (by omega),l0,List.take_append_of_le_length (by rw [qQt];omega)]
  simp [B8,List.map_take]
 have e2:(HB made s rest n).toList.drop (9+p+l.length)=B8 (rest.drop (p+l.length))++[Value.int .u64 (n:Int)]:=by
  rw[e0,List.drop_append,kQt (by omega),l0,List.nil_append,List.drop_append_of_le_length (by rw [qQt];omega)]
  simp [B8,List.map_drop]
  omega
 rw[e1,e2,HB,HBl,layL]
 simp [B8]
theorem qJo (made:Bool) (g:Nat) (h0:HSt) (k0:h0.ok) (w:World) (A:Option Addr) (n c:Nat) (l:List UInt8) (hn:l.length=n) (hc:n≤c) (hR:RdB w A l) (hlt:l≠[]→∀a,A=some a→a.block≠g)
  (hb:h0.n+n≤140737488355328) (hg:w.heap[g]?=some (.cells (HBx made h0) 201 (0,0))) :
  Calls Tryz.prog 87 #[.pointer (some ⟨g,0,none⟩),.slice A n c] w fun e w'=>e=.returned (.tuple #[])∧w'.heap[g]?=some (.cells (HBx true (qXz (stOf made h0) l)) 201 (0,0))∧w.grownBy w' (some g):=by
 have K0:=Lh k0
 obtain⟨h,hh⟩:∃h,h=stOf made h0:=⟨_,rfl⟩
 rw[←hh]
 have K:=Lh (show h.ok by rw [hh];exact stOf_ok k0 made)
 have HH:=Lh hh
 have hb':h.n+n≤140737488355328:=by rw [hh];cases made<;>exact hb
 clear hh k0 hb
 have HN:=Lh hn
 have HC:=Lh hc
 have HR:=Lh hR
 have HL:=Lh hlt
 have HBd:=Lh hb'
 have GA:=Lh hg
 have c0:=qQg hg 0 (HB_made made h0.s h0.rest h0.n)
 have f0:=qQz hg 0
 clear hn hc hR hlt hb' hg
 go_enter Tryz.func87,Tryz.ntmps87
 go_upto_if 11 with fail
 go_cut [1] (fun b wx=>b=.slice A n c∧wx.heap[g]?=some (.cells (HBx true h) 201 (0,0))∧w.grownBy wx (some g))
 case first=>
  rcases made with _|_
  ·go_wp2_with fail
   refine(begin_any _).mono ?_
   rintro e w1 ⟨rfl,hb1⟩
   obtain⟨bl,hbl⟩:∃bl,bl=W32 qVc:=⟨_,rfl⟩
   rw[←hbl]
   have BL:=Lh hbl
   have ZB:=Lh (show(Tryz.prog.info? 198).map (·.size)=some bl.size by rw [hbl];kernel_rfl)
   have G1:=Lh (qQb hb1 (qQe GA.out) GA.out)
   have B1:=Lh hb1
   clear hbl hb1 c0 f0
   have c0:=qQg G1.out 0 (HB_made false h0.s h0.rest h0.n)
   have f0:=qQz G1.out 0
   have G2:=Lh (show(w1.setCell ⟨g,0,none⟩ (.bool true)).heap[g]?=some (.cells (HB true h0.s h0.rest h0.n) 201 (0,0)) by rw [heap_setCell_same _ _ _ _ _ _ G1.out,HBx,HB_set_made])
   go_wp2_with (refine qXr rfl 198 (.tmp 18) (.tmp 14) rfl g 1 bl rfl rfl _ _ G2.out ZB.out ?c1 ?c2 ?_)
   case c1=>rw [qYh _ _ _ _ K0.out.hs K0.out.hr,BL.out];decide
   case c2=>rw [BL.out];exact qZt _
   intro w2 hg2 hgr2 hs2
   go_wp2_with fail
   go_meet
   refine⟨rfl,?_,?_⟩
   ·rw [hg2,HH.out,BL.out,HBx,stOf,HB_words _ _ _ _ K0.out.hs _ rfl]
    rfl
   ·exact World.grownBy.trans (qQJ B1.out |>.mono_none) (World.grownBy.trans (qQF (World.grownBy.refl _ _) _ _) hgr2)
  ·have e1:h=h0:=HH.out
   go_wp2_with fail
   go_meet
   exact⟨rfl,by rw [HH.out];exact GA.out,World.grownBy.refl _ _⟩
 case rest=>
 obtain⟨rfl,hg,hgr0⟩:=hcut
 have G0:=Lh hg
 have GR0:=Lh hgr0
 clear c0 f0 GA hg hgr0 HH K0
 go_wp2_with fail
 go_loopw [1] (fun b wr=>∃(p r:Nat) (A':Option Addr) (c':Nat),p+r=n∧r≤c'∧b=.slice A' r c'∧RdB w A' (l.drop p)∧(l≠[]→∀a,A'=some a→a.block≠g)∧
   wr.heap[g]?=some (.cells (HBx true (qXz h (l.take p))) 201 (0,0))∧w.grownBy wr (some g)) (fun b _=>lenOf b)
 case atStart=>exact⟨0,n,A,c,by omega,HC.out,rfl,HR.out,HL.out,G0.out,GR0.out⟩
 case round=>
  obtain⟨p,r,A1,c1,hpr,hrc,rfl,hR1,hlt1,hg1,hgr1⟩:=hrel
  have HPR:=Lh hpr
  have HRC:=Lh hrc
  have R1:=Lh hR1
  have L1:=Lh hlt1
  have G1:=Lh hg1
  have GR1:=Lh hgr1
  clear hpr hrc hR1 hlt1 hg1 hgr1 HC HR HL G0 GR0
  by_cases h0:0<r
  ·have hD:decide ((0:Int)<(r:Int))=true:=by simp;omega
   obtain⟨q,hq⟩:∃q,q=qXz h (l.take p):=⟨_,rfl⟩
   rw[←hq]at G1
   have KQ:=Lh (show q.ok by rw [hq];exact qWq K.out _)
   have NQ:=Lh (show q.n=h.n+p by have:=HN.out;have:=HPR.out;rw [hq,qJc,kQp];omega)
   have QQ:=Lh hq
   clear hq
   have cn:=qQg G1.out 73 (HB_n true q.s q.rest q.n KQ.out.hs KQ.out.hr)
   have CN:=Lh cn
   clear cn
   go_upto_region 4 with fail
   obtain⟨i0,hi,hz0,hz1,hz2⟩:=info_parts (show(Tryz.prog.info? 5).map (fun i=>(i.zero,i.size,i.bytes))=some (some (.int .u8 0),1,1) by kernel_rfl)
   have I0:=Lh hi
   have I2:=Lh hz1
   clear hi hz0 hz1 hz2
   refine qZl (fun W=>W.cell? ⟨g,73,none⟩=some (.int .u64 (q.n:Int))) [0,1,2,3,4,5,6,7,8,9] [10,11] (by kernel_rfl) (by kernel_rfl) (fun _ _ d _ _ h=>by cases d<;>exact h) CN.out ?_
   simp only [kQl,kQm,kQd,kQg,kQe]
   refine qQm (by rfl) (fun W hW=>by go_simp;rfl) ?_
   simp only [Act.put,pq1,pq2,pq3]
   refine qQm (by rfl) (fun W hW=>by go_simp;rfl) ?_
   simp only [Act.put,pq1,pq2,pq3]
   refine qQm (by rfl) (fun W hW=>by go_simp;rfl) ?_
   simp only [Act.put,pq1,pq2,pq3]
   refine qQm (by rfl) (fun W hW=>by go_simp;rfl) ?_
   simp only [Act.put,pq1,pq2,pq3]
   refine qQm (by rfl) (fun W hW=>by go_simp;rfl) ?_
   simp only [Act.put,pq1,pq2,pq3]
   refine qQm (by rfl) (fun W hW=>by go_simp;rfl) ?_
   simp only [Act.put,pq1,pq2,pq3]
   refine qQm (by rfl) (fun W hW=>qQq 36 (.tmp 27) rfl _ Tryz.underlying36 rfl rfl hW) ?_
   simp only [Act.put,pq1,pq2,pq3]
   refine qQm (by rfl) (fun W hW=>by go_simp;rfl) ?_
   simp only [Act.put,pq1,pq2,pq3]
   obtain⟨pos,hpos⟩:∃pos,pos=q.n % 64:=⟨_,rfl⟩
   have PO:=Lh (show(q.n:Int).tmod 64=(pos:Int) by rw [Int.tmod_eq_emod_of_nonneg (by omega)];omega)
   have P64:=Lh (show pos<64 by omega)
   have PP:=Lh hpos
   clear hpos
   refine qQm (by rfl) (fun W hW=>qY7 179 (.tmp 24) (.tmp 29) rfl 64 5 Tryz.underlying179 I0.out I2.out .u64 g 9 pos P64.out _ PO.out rfl rfl W) ?_
   simp only [Act.put,pq1,pq2,pq3]
   refine qQm (by rfl) (fun W hW=>by go_simp;rfl) ?_
   simp only [Act.put,pq1,pq2,pq3]
   refine qXE ?_
   refine qXi (by rfl) (fun K hK=>?_)
   obtain⟨m,hm0,hmr,hm64,hmc⟩:=min_nat r (64-pos)
   have HM:=Lh hm0
   clear hm0
   have TB:=Lh (show qXA Tryz.prog from⟨Tryz.underlying22,by kernel_rfl⟩)
   have LN:=Lh (show l≠[] by intro e;have h1:=HN.out;have h2:=HPR.out;rw [e]at h1;simp at h1;omega)
   have R2:=Lh (R1.out.grow GR1.out (fun _ a ea=>L1.out LN.out a ea))
   refine copyB_wp TB.out (.tmp 30) (.tmp 31) rfl g (9+pos) (64-pos) (64-pos) A1 r c1 rfl rfl _ _ G1.out (l.drop p) (by have:=HN.out;have:=HPR.out;simp;omega) R2.out h0 m HM.out (by rw [HBx,qYh _ _ _ _ KQ.out.hs KQ.out.hr];have:=P64.out;omega) ?_
   intro w2 hg2 hgr2 hs2
   have LC:=Lh (show((l.drop p).take m).length=m by have:=HN.out;have:=HPR.out;simp;omega)
   rw[show 9+pos+m=9+pos+((l.drop p).take m).length by rw [LC.out],HBx,HB_copy true q.s q.rest q.n KQ.out.hs pos _ (by rw [LC.out,KQ.out.hr];have:=P64.out;omega)]at hg2
   refine hK.out _ _ (qQg hg2 73 (HB_n true q.s _ q.n KQ.out.hs (by rw [qW6 _ _ _ (by rw [LC.out,KQ.out.hr];have:=P64.out;omega)];exact KQ.out.hr))) ?_
   clear hK K
   refine qZu (by rfl) (qQg hg2 73 (HB_n true q.s _ q.n KQ.out.hs (by rw [qW6 _ _ _ (by rw [LC.out,KQ.out.hr];have:=P64.out;omega)];exact KQ.out.hr))) (by go_simp;rfl) ?_
   simp only [Act.put,pq1,pq2,pq3]
   refine qXD ?_
   obtain⟨rs,hrs⟩:∃rs,rs=layL q.rest pos ((l.drop p).take m):=⟨_,rfl⟩
   have RL:=Lh (show rs.length=64 by rw [hrs,qW6 _ _ _ (by rw [LC.out,KQ.out.hr];have:=P64.out;omega)];exact KQ.out.hr)
   rw[←hrs]at hg2
   have RS:=Lh hrs
   have G2:=Lh hg2
   have GR2:=Lh (World.grownBy.trans (qZS GR1.out) hgr2)
   have MC:=Lh hmc
   have MR:=Lh hmr
   have M64:=Lh hm64
   clear hrs hg2 hgr2 hs2 R2 CN HM GR1 G1 hmc hm64
   obtain⟨A2,hcut,hcutR,hcutB⟩:=qVR (P:=Tryz.prog) 22 5 Tryz.underlying22 I0.out I2.out A1 r c1 m hmr
   have HCR:=Lh hcutR
   have HCB:=Lh hcutB
   clear hcutR hcutB
   have c73:=qQg G2.out 73 (HB_n true q.s rs q.n KQ.out.hs RL.out)
   have f73:=qQz G2.out 73
   have b1:(m:Int)≤64:=by have:=M64.out;omega
   have b2:(q.n:Int)+(m:Int)≤140737488355328:=by have:=NQ.out;have:=HPR.out;have:=HBd.out;omega
   go_upto_region 7 with fail
   clear c73 f73
   rw[show(q.n:Int)+(m:Int)=((q.n+m:Nat):Int) by omega]
   obtain⟨w3,hw3⟩:∃w3,w3=w2.setCell ⟨g,73,none⟩ (.int .u64 ((q.n+m:Nat):Int)):=⟨_,rfl⟩
   have G3:=Lh (show w3.heap[g]?=some (.cells (HB true q.s rs (q.n+m)) 201 (0,0)) by rw [hw3,heap_setCell_same _ _ _ _ _ _ G2.out,HB_set_n true q.s rs q.n _ KQ.out.hs RL.out])
   have GR3:=Lh (show w.grownBy w3 (some g) by rw [hw3];exact qQF GR2.out _ _)
   rw[←hw3]
   have ST:=Lh (show qXz h (l.take (p+m))=qKo q ((l.drop p).take m) by
    have hm0:0<m:=by have:=MC.out;have:=P64.out;omega
    rw[List.take_add,qXb,←QQ.out,qYy q KQ.out _ (by intro e;have:=LC.out;rw [e]at this;simp at this;omega) (by rw [LC.out,←PP.out];have:=P64.out;have:=M64.out;omega)])
   clear hw3 G2 GR2
   have c73:=qQg G3.out 73 (HB_n true q.s rs (q.n+m) KQ.out.hs RL.out)
   by_cases h64:(q.n+m) % 64=0
   ·have hE:(((q.n+m:Nat):Int) % 64==0)=true:=by simp;omega
    go_upto_region 8 with fail
    clear c73
    refine qZl (fun _=>True) [0,1,2,3,4,5] [6] (by kernel_rfl) (by kernel_rfl) (fun _ _ d _ _ h=>by cases d<;>exact h) (trivial) ?_
    simp only [kQl,kQm,kQd,kQg,kQe]
    refine qQm (by rfl) (fun W hW=>by go_simp;rfl) ?_
    simp only [Act.put,pq1,pq2,pq3]
    refine qQm (by rfl) (fun W hW=>by go_simp;rfl) ?_
    simp only [Act.put,pq1,pq2,pq3]
    refine qQm (by rfl) (fun W hW=>by go_simp;rfl) ?_
    simp only [Act.put,pq1,pq2,pq3]
    refine qQm (by rfl) (fun W hW=>by go_simp;rfl) ?_
    simp only [Act.put,pq1,pq2,pq3]
    refine qQm (by rfl) (fun W hW=>by go_simp;rfl) ?_
    simp only [Act.put,pq1,pq2,pq3]
    refine qQm (by rfl) (fun W hW=>by go_simp;rfl) ?_
    simp only [Act.put,pq1,pq2,pq3]
    refine qXE ?_
    refine qXi (by rfl) (fun K hK=>?_)
    go_simp
    refine(take_any g true q.s rs (q.n+m) KQ.out.hs RL.out w3.drew G3.out).mono ?_
    rintro e w4 ⟨rfl,hg4,hgr4⟩
    have G4:=Lh hg4
    have GR4:=Lh (World.grownBy.trans (qZS GR3.out) hgr4)
    clear hg4 hgr4
    refine hK.out _ _ (trivial) ?_
    clear hK K
    refine qXD ?_
    go_wp2_with fail
    go_roundw
    case rel=>
     refine⟨p+m,r-m,A2,c1-m,by have:=HPR.out;omega,by have:=HRC.out;omega,rfl,?_,fun _ a ha=>?_,?_,GR4.out⟩
     ·have:=HCR.out w (l.drop p) (by have:=HN.out;have:=HPR.out;simp;omega) HRC.out R1.out
      rwa [List.drop_drop]at this
     ·obtain⟨a0,ha0,hb⟩:=HCB.out a ha
      rw[hb]
      exact L1.out LN.out a0 ha0
     ·rw [ST.out,qKo,LC.out,if_pos h64,←PP.out,←RS.out]
      exact G4.out
    case measure=>have:=MC.out;have:=P64.out;simp [lenOf];omega
   ·have hE:(((q.n+m:Nat):Int) % 64==0)=false:=by simp;omega
    go_wp2_with fail
    go_roundw
    case rel=>
     refine⟨p+m,r-m,A2,c1-m,by have:=HPR.out;omega,by have:=HRC.out;omega,rfl,?_,fun _ a ha=>?_,?_,GR3.out⟩
     ·have:=HCR.out w (l.drop p) (by have:=HN.out;have:=HPR.out;simp;omega) HRC.out R1.out
      rwa [List.drop_drop]at this
     ·obtain⟨a0,ha0,hb⟩:=HCB.out a ha
      rw[hb]
      exact L1.out LN.out a0 ha0
     ·rw [ST.out,qKo,LC.out,if_neg h64,←PP.out,←RS.out]
      exact G3.out
    case measure=>have:=MC.out;have:=P64.out;simp [lenOf];omega
  ·have hr0:Hid (r=0):=show r=0 by omega
   have hD:decide ((0:Int)<(r:Int))=false:=by simp;omega
   go_wp2_with fail
   go_end0
   refine⟨rfl,?_,GR1.out⟩
   have hp:p=l.length:=by have:=HPR.out;have:=hr0.out;have:=HN.out;omega
   have:=G1.out
   rw[hp,List.take_length]at this
   exact this
structure SmW (w:World) (out:List UInt8) (E:Nat) (q:HSt) (W:World):Prop where
 bo:W.heap[w.heap.size]?=some (.cells (W8 out) 37 (0,0))
 be:W.heap[E]?=some (.cells (HBx true q) 201 (0,0))
 hE:w.heap.size<E
 bel:Below w.heap.size w W
theorem SmW.step {w W W':World} {out:List UInt8} {E:Nat} {q q':HSt} (h:SmW w out E q W) (hb:W'.heap[E]?=some (.cells (HBx true q') 201 (0,0))) (hg:W.grownBy W' (some E)):SmW w out E q' W' where
 bo:=qQd hg (by have:=h.hE;simp;omega) h.bo
 be:=hb
 hE:=h.hE
 bel:=h.bel.trans (qQi hg h.bel.size (by intro g e;cases e;have:=h.hE;omega))
theorem SmW.keep {w W W':World} {out:List UInt8} {E:Nat} {q:HSt} (h:SmW w out E q W) (hb:Below W.heap.size W W'):SmW w out E q W' where
 bo:=qQb hb (qQe h.bo) h.bo
 be:=qQb hb (qQe h.be) h.be
 hE:=h.hE
 bel:=h.bel.trans (hb.mono h.bel.size)
theorem qJn:W8 (kQc 32 0)=#[.int .u8 0,.int .u8 0,.int .u8 0,.int .u8 0,.int .u8 0,.int .u8 0,.int .u8 0,.int .u8 0,.int .u8 0,.int .u8 0,.int .u8 0,.int .u8 0,.int .u8 0,.int .u8 0,.int .u8 0,.int .u8 0,.int .u8 0,.int .u8 0,.int .u8 0,.int .u8 0,.int .u8 0,.int .u8 0,.int .u8 0,.int .u8 0,.int .u8 0,.int .u8 0,.int .u8 0,.int .u8 0,.int .u8 0,.int .u8 0,.int .u8 0,.int .u8 0]:=rfl
theorem HB_one (made:Bool) (s:List UInt32) (rest:List UInt8) (n:Nat):(HB made s rest n).all (·.oneCell')=true:=all_oneCell_toArray (by
 intro v hv
 simp only [HBl,List.mem_cons,List.mem_append,List.mem_map]at hv
 rcases hv with rfl|⟨x,_,rfl⟩|⟨x,_,rfl⟩|rfl|hv
 ·rfl
 ·rfl
 ·rfl
 ·rfl
 ·cases hv)
def toCome (v:Option Value):Nat:=match v with|some (.int _ z)=>(56+64-z.toNat % 64) % 64|_=>0
theorem qYU (c:Nat) (r:Nat) (h:c<18446744073709551616):∃z:UInt8,Hid (z=UInt8.ofNat (c/2 ^ (8*r)))∧IntKind.u8.wrap ((c:Int)/2 ^ (8*r))=(z.toNat:Int):=by
 refine⟨_,rfl,?_⟩
 rw[IntKind.wrap_u8]
 have:((c:Int)/2 ^ (8*r))=((c/2 ^ (8*r):Nat):Int):=by
  rw[Int.natCast_ediv,Int.natCast_pow];rfl
 rw[this]
 simp
theorem shr_out (x:UInt32) (k:Nat) (hk:k<32):((x.toNat:Int)/2 ^ k) % 256=((x >>> (UInt32.ofNat k)).toUInt8.toNat:Int):=by
 have e1:(UInt32.ofNat k).toNat=k:=by simp;omega
 rw[UInt32.toNat_toUInt8,UInt32.toNat_shiftRight,e1,Nat.mod_eq_of_lt hk,Nat.shiftRight_eq_div_pow,Int.natCast_emod,Int.natCast_ediv,Int.natCast_pow]
 rfl
theorem hsum_core (rv:Value) (made:Bool) (g:Nat) (h0:HSt) (k0:h0.ok) (w:World) (hb:h0.n≤140737488355000)
  (hrv:(rv=.pointer none∧made=false)∨(rv=.pointer (some ⟨g,0,none⟩)∧w.heap[g]?=some (.cells (HBx made h0) 201 (0,0)))) :
  Calls Tryz.prog 88 #[rv] w fun e w'=>e=.returned (.agg (W8 (sumH (if made then h0 else startH))))∧Below w.heap.size w w':=by
 have K0:=Lh k0
 obtain⟨h,hh⟩:∃h,h=(if made then h0 else startH):=⟨_,rfl⟩
 rw[←hh]
 have HH:=Lh hh
 have K:=Lh (show h.ok by rw [hh];cases made;exact startH_ok;exact k0)
 have HN:=Lh (show h.n≤140737488355000 by rw [hh];cases made;exact Nat.zero_le _;exact hb)
 have RV:=Lh hrv
 have Z32:=Lh qJn
 clear hh k0 hb hrv
 go_enter Tryz.func88,Tryz.ntmps88
 go_wp2_with fail
 rw[←Z32.out]
 refine(qYq _).mono ?_
 rintro e w1 ⟨E,rfl,hE,hgE,hb1⟩
 have S1:=Lh (show SmW w (kQc 32 0) E startH w1 from⟨qQb hb1 (by simp) (qQk _ _ _ rfl),hgE,by simp at hE;omega,((Below.refl _ _).alloc (kQh _) _).trans (hb1.mono (by simp))⟩)
 clear hE hgE hb1
 go_upto_region 2 with fail
 go_cut [16] (fun v wx=>v=.bool made∧wx=w1)
 case first=>
  rcases RV.out with ⟨rfl,rfl⟩|⟨rfl,hg⟩
  ·go_wp2_with fail
   go_meet
   exact⟨rfl,rfl⟩
  ·have c0:=qQg (qQb S1.out.bel (qQe hg) hg) 0 (HB_made made h0.s h0.rest h0.n)
   clear hg
   go_wp2_with fail
   go_meet
   exact⟨rfl,rfl⟩
 case rest=>
 obtain⟨rfl,rfl⟩:=hcut
 go_upto_if 16 with fail
 go_cut [3] (fun e wx=>e=.pointer (some ⟨E,0,none⟩)∧SmW w (kQc 32 0) E h wx)
 case first=>
  rcases made with _|_
  ·go_wp2_with fail
   go_meet
   exact⟨rfl,by rw [HH.out];exact S1.out⟩
  ·obtain⟨rfl,hg⟩:=RV.out.resolve_left (fun h=>by cases h.2)
   have G1:=Lh (qQb S1.out.bel (qQe hg) hg)
   have ZH:=Lh (show(Tryz.prog.info? 201).map (·.size)=some (HBx true h0).size by rw [HBx,qYh _ _ _ _ K0.out.hs K0.out.hr];kernel_rfl)
   clear hg
   go_wp2_with (first
    | (refine wpList_load_row rfl 201 (.tmp 19) rfl g rfl 201 (HBx true h0) (0,0) _ G1.out Tryz.underlying201 rfl ZH.out ?_)
    | (refine qQf rfl rfl 201 (.tmp 21) (.tmp 20) rfl E (HBx true h0) rfl rfl 201 (HBx true startH) S1.out.be ZH.out (by rw [HBx,HBx,qYh _ _ _ _ K0.out.hs K0.out.hr,qYh _ _ _ _ startH_ok.hs startH_ok.hr]) (HB_one _ _ _ _) ?_;intro w2 hg2 hgr2 hs2))
   go_meet
   exact⟨rfl,by rw [HH.out];exact S1.out.step hg2 hgr2⟩
 case rest=>
 obtain⟨rfl,hs⟩:=hcut
 have S2:=Lh hs
 clear hs S1 HH K0 RV
 have c73:=qQg S2.out.be 73 (HB_n true h.s h.rest h.n K.out.hs K.out.hr)
 have b1:(h.n:Int)≤140737488355000:=by have:=HN.out;omega
 go_wp2_with fail
 clear c73
 obtain⟨C,hC⟩:∃C,C=h.n*8:=⟨_,rfl⟩
 have HC:=Lh hC
 rw[show(h.n:Int)*8=(C:Int) by omega]
 clear hC
 have S3:=Lh (S2.out.keep ((Below.refl wc.heap.size _).alloc (kQh _) (.cells #[.int .u8 128] 5)))
 refine(qJo true E h K.out _ (some ⟨wc.heap.size,0,none⟩) 1 1 [0x80] rfl (kQh _) (RdB.one (qQg (fr:=(0,0)) (qQk wc _ _ rfl) 0 rfl)) (by intro _ a e;cases e;have:=qQe S2.out.be;simp;omega) (by have:=HN.out;omega) S3.out.be).mono ?_
 rintro e w2 ⟨rfl,hg2,hgr2⟩
 have S4:=Lh (show SmW w (kQc 32 0) E (qXz h (0x80::kQc 0 0)) w2 from S3.out.step hg2 hgr2)
 clear hg2 hgr2 S2 S3
 go_wp2_with fail
 go_loopw [] (fun wr=>∃j:Nat,j≤qXQ h.n∧SmW w (kQc 32 0) E (qXz h (0x80::kQc j 0)) wr) (fun wr=>toCome (wr.cell? ⟨E,73,none⟩))
 case atStart=>exact⟨0,Nat.zero_le _,S4.out⟩
 case round=>
  obtain⟨j,hj,hs⟩:=hrel
  have J:=Lh hj
  have S5:=Lh hs
  obtain⟨q,hq⟩:∃q,q=qXz h (0x80::kQc j 0):=⟨_,rfl⟩
  rw[←hq]at S5
  have QQ:=Lh hq
  have KQ:=Lh (show q.ok by rw [hq];exact qWq K.out _)
  have NQ:=Lh (show q.n=h.n+(j+1) by rw [hq,qJc];simp)
  clear hj hs hq S4
  have c73:=qQg S5.out.be 73 (HB_n true q.s q.rest q.n KQ.out.hs KQ.out.hr)
  by_cases he:q.n % 64=56
  ·have hE:(((q.n:Nat):Int) % 64==56)=true:=by simp;omega
   have hE2:(((q.n:Nat):Int) % 64 != 56)=false:=by simp;omega
   have HZ:=Lh (show j=qXQ h.n by have:=J.out;have:=NQ.out;unfold qXQ at *;omega)
   go_wp2_with fail
   clear c73 hE hE2
   go_loopw [5] (fun i wr=>∃(r:Nat) (pre:List UInt8),r≤8∧(i=.int .i64 ((r:Int)-1))∧pre++beLs r C=beLs 8 C∧SmW w (kQc 32 0) E (qXz q pre) wr) (fun i _=>(intOf i+1).toNat)
   case atStart=>exact⟨8,[],kQh _,rfl,rfl,S5.out⟩
   case round=>
    obtain⟨r,pre,hr,rfl,hpre,hs⟩:=hrel
    have R8:=Lh hr
    have PRE:=Lh hpre
    have S6:=Lh hs
    have PL:=Lh (show pre.length+r=8 by have:=congrArg List.length hpre;rw [kQj,qWj,qWj]at this;exact this)
    have KP:=Lh (qWq KQ.out pre)
    have NP:=Lh (qJc q pre)
    clear hr hpre hs S5
    rcases r with _|r
    ·have hD:decide ((0:Int)≤(((0:Nat):Int)-1))=false:=by decide
     have e0:(((0:Nat):Int)-1) = -1:=by decide
     go_wp2_with fail
     rw[←Z32.out]
     obtain⟨t,ht⟩:∃t,t=qXz q pre:=⟨_,rfl⟩
     rw[←ht]at S6 KP
     have TT:=Lh (show t=qXz h (tailL h.n) by
      have:=PRE.out
      rw[beLs,List.append_nil]at this
      rw[ht,this,QQ.out,←qXb,tailL,HZ.out]
      congr 2
      rw[List.cons_append]
      congr 2
      have h1:=HN.out
      have h2:=HC.out
      rw[h2]
      congr 1
      omega)
     clear ht
     obtain⟨L,hL⟩:∃L,L=outL t.s:=⟨_,rfl⟩
     have LL:=Lh (show L.length=32 by rw [hL,qW3])
     have LE:=Lh hL
     obtain⟨M,hM⟩:∃M,M=wr.heap.size:=⟨_,rfl⟩
     have S7:=Lh (show SmW w (kQc 32 0) E t (wr.alloc (.cells (W8 (kQc 32 0)) 37))∧(wr.alloc (.cells (W8 (kQc 32 0)) 37)).heap[M]?=some (.cells (W8 (qXF L 0)) 37 (0,0))∧E<M from
      ⟨S6.out.keep ((Below.refl _ _).alloc (kQh _) _),by rw [qX3,LL.out];exact qQk _ _ _ hM,by rw [hM];exact qQe S6.out.be⟩)
     rw[←hM]
     clear hL hM
     have EM:=Lh S7.out.2.2
     go_loopw [51] (fun i wr=>∃j:Nat,j≤32∧i=.int .i64 (j:Int)∧SmW w (kQc 32 0) E t wr∧wr.heap[M]?=some (.cells (W8 (qXF L j)) 37 (0,0))) (fun i _=>32-(intOf i).toNat)
     case atStart=>exact⟨0,Nat.zero_le _,rfl,S7.out.1,S7.out.2.1⟩
     case round=>
      obtain⟨j,hj,rfl,hs,hm⟩:=hrel
      have S8:=Lh hs
      have M8:=Lh hm
      have J:=Lh hj
      clear hj hs hm S7
      by_cases hlt:j<32
      ·have hD:decide ((j:Int)<32)=true:=by simp;omega
       obtain⟨x,hx⟩:∃x,x=t.s.getD (j/4) 0:=⟨_,rfl⟩
       have c1:=qQg S8.out.be (1+j/4) (HB_s true t.s t.rest t.n (j/4) (by rw [KP.out.hs];omega))
       rw[←hx]at c1
       have X:=Lh hx
       clear hx
       have c2:=qQg M8.out j (qZ4 _ j (by rw [qZV,LL.out];exact hlt))
       have f2:=qQz M8.out j
       have b1:(j:Int)<32:=by omega
       have b2:(0:Int)≤3-(j:Int) % 4:=by omega
       have b3:3-(j:Int) % 4≤3:=by omega
       have b4:((j:Int)/4)<8:=by omega
       have e1:((j:Int)/4).toNat=j/4:=by omega
       have e2:(8*(3-(j:Int) % 4)).toNat=8*(3-j % 4):=by omega
       go_wp2_with fail
       rw[shr_out x (8*(3-j % 4)) (by omega)]
       obtain⟨w3,hw3⟩:∃w3,w3=wr.setCell ⟨M,j,none⟩ (.int .u8 ((x >>> UInt32.ofNat (8*(3-j % 4))).toUInt8.toNat:Int)):=⟨_,rfl⟩
       rw[←hw3]
       have hx2:(x >>> UInt32.ofNat (8*(3-j % 4))).toUInt8=L.getD j 0:=by
        rw[LE.out,outL,kQa,List.getElem?_map,List.getElem?_range hlt,X.out]
        rfl
       have M9:w3.heap[M]?=some (.cells (W8 (qXF L (j+1))) 37 (0,0)):=by
        rw[hw3,heap_setCell_same _ _ _ _ _ _ M8.out,qYX,hx2,qWN _ _ (by rw [LL.out];exact hlt)]
       have S9:SmW w (kQc 32 0) E t w3:=by
        have hgr:wr.grownBy w3 (some M):=by rw [hw3];exact qQF (World.grownBy.refl _ _) _ _
        have h1:=EM.out
        have h2:=S8.out.hE
        exact⟨qQd hgr (by simp;omega) S8.out.bo,qQd hgr (by simp;omega) S8.out.be,h2,S8.out.bel.trans (qQi hgr S8.out.bel.size (by intro g e;cases e;omega))⟩
       exact⟨⟨j+1,by omega,by go_num,S9,M9⟩,by simp [intOf];omega⟩
      ·have hj:Hid (j=32):=show j=32 by have:=J.out;omega
       have hD:decide ((j:Int)<32)=false:=by simp;omega
       have M9:=Lh (show wr.heap[M]?=some (.cells (W8 L) 37 (0,0)) by have:=M8.out;rw [hj.out,←LL.out,qX4]at this;exact this)
       have Z:=Lh (show(Tryz.prog.info? 37).map (·.size)=some (W8 L).size by rw [qQw,LL.out];kernel_rfl)
       go_wp2_with (first
        | (refine wpList_load_row rfl 37 (.tmp 6) rfl M rfl 37 (W8 L) (0,0) _ M9.out Tryz.underlying37 rfl Z.out ?_)
        | (refine qQf rfl rfl 37 (.tmp 2) (.tmp 70) rfl w.heap.size (W8 L) rfl rfl 37 _ S8.out.bo Z.out (by rw [qQw,qQw,LL.out];simp) (qZg _) ?_;intro w8 hz8 hg8 _))
       refine bodyPost_ret (results_cell_row rfl _ _ w.heap.size 37 (W8 L) (0,0) _ rfl hz8 Tryz.underlying37 rfl Z.out) rfl ⟨?_,?_⟩
       ·rw [LE.out,TT.out,sumH]
       ·exact S8.out.bel.trans (qQi hg8 (Nat.le_of_lt (qQe S8.out.bo)) (by rintro g ⟨⟩;omega))
    ·have hD:decide ((0:Int)≤(((r+1:Nat):Int)-1))=true:=by simp
     have e0:(((r+1:Nat):Int)-1)=(r:Int):=by omega
     have e2:8*(r:Int)≤64:=by have:=R8.out;omega
     have e4:(8*(r:Int)).toNat=8*r:=by omega
     obtain⟨z,hz,e3⟩:=qYU C r (by have:=HC.out;have:=HN.out;omega)
     go_wp2_with fail
     have S7:=Lh (S6.out.keep ((Below.refl wr.heap.size _).alloc (kQh _) (.cells #[.int .u8 (z.toNat:Int)] 5)))
     refine(qJo true E (qXz q pre) KP.out _ (some ⟨wr.heap.size,0,none⟩) 1 1 [z] rfl (kQh _) (RdB.one (qQg (fr:=(0,0)) (qQk wr _ _ rfl) 0 rfl)) (by intro _ a e;cases e;have:=qQe S6.out.be;simp;omega) (by have:=HN.out;have:=NQ.out;have:=NP.out;have:=PL.out;have:=J.out;unfold qXQ at this;omega) S7.out.be).mono ?_
     rintro e w2 ⟨rfl,hg2,hgr2⟩
     have S8:=Lh (S7.out.step hg2 hgr2)
     clear hg2 hgr2 e3 e4
     go_wp2_with fail
     go_roundw
     case rel=>
      refine⟨r,pre++[z],by have:=R8.out;omega,by go_num,?_,?_⟩
      ·rw [←PRE.out,beLs,←hz.out,List.append_assoc]
       rfl
      ·rw [qXb]
       exact S8.out
     case measure=>simp [intOf]<;>omega
  ·have hE:(((q.n:Nat):Int) % 64==56)=false:=by simp;omega
   have hE2:(((q.n:Nat):Int) % 64 != 56)=true:=by simp;omega
   have HJ:=Lh (show j<qXQ h.n by
    have:=J.out
    have:=NQ.out
    rcases Nat.lt_or_ge j (qXQ h.n)with h1|h1
    ·exact h1
    ·exfalso;unfold qXQ at *;omega)
   go_wp2_with fail
   have S6:=Lh (S5.out.keep ((Below.refl wr.heap.size _).alloc (kQh _) (.cells #[.int .u8 0] 5)))
   refine(qJo true E q KQ.out _ (some ⟨wr.heap.size,0,none⟩) 1 1 [0] rfl (kQh _) (RdB.one (qQg (fr:=(0,0)) (qQk wr _ _ rfl) 0 rfl)) (by intro _ a e;cases e;have:=qQe S5.out.be;simp;omega) (by have:=HN.out;have:=NQ.out;have:=HJ.out;unfold qXQ at this;omega) S6.out.be).mono ?_
   rintro e w2 ⟨rfl,hg2,hgr2⟩
   have S7:=Lh (S6.out.step hg2 hgr2)
   clear hg2 hgr2
   go_wp2_with fail
   go_roundw
   case rel=>
    refine⟨j+1,HJ.out,?_⟩
    have:=S7.out
    rw[show qXz (stOf true q) [0]=qXz h (0x80::kQc (j+1) 0) by
     rw[List.replicate_succ',←List.cons_append,qXb,←QQ.out];rfl]at this
    exact this
   case measure=>
    have d1:=qQg S7.out.be 73 (HB_n true _ _ _ (qWq KQ.out [0]).hs (qWq KQ.out [0]).hr)
    rw[d1,c73,show(qXz (stOf true q) [0]).n=q.n+1 from qJc q [0]]
    simp only [toCome]
    omega
theorem hsum_any (made:Bool) (g:Nat) (h0:HSt) (k0:h0.ok) (w:World) (hb:h0.n≤140737488355000) (hg:w.heap[g]?=some (.cells (HBx made h0) 201 (0,0))) :
  Calls Tryz.prog 88 #[.pointer (some ⟨g,0,none⟩)] w fun e w'=>e=.returned (.agg (W8 (sumH (if made then h0 else startH))))∧Below w.heap.size w w':=
 hsum_core _ made g h0 k0 w hb (.inr ⟨rfl,hg⟩)
theorem of_any (w:World) (A:Option Addr) (n c:Nat) (vs:List Value) (ls:List (List UInt8)) (hn:vs.length=n) (hR:RdV w A vs) (hall:All2 (SlB w) vs ls) (hb:ls.flatten.length≤140737488355000) (hnb:n≤140737488355000) :
  Calls Tryz.prog 67 #[.slice A n c] w fun e w'=>e=.returned (.agg (W8 (qZ8 ls.flatten)))∧Below w.heap.size w w':=by
 have HN:=Lh hn
 have HR:=Lh hR
 have HA:=Lh hall
 have HB:=Lh hb
 have NL:=Lh (show ls.length=n by rw [←hall.length,hn])
 have Z32:=Lh qJn
 have b0:(n:Int)≤140737488355000:=by omega
 clear hn hR hall hb hnb
 go_enter Tryz.func67,Tryz.ntmps67
 go_wp2_with fail
 rw[←Z32.out]
 refine(qYq _).mono ?_
 rintro e w1 ⟨E,rfl,hE,hgE,hb1⟩
 have S1:=Lh (show SmW w (kQc 32 0) E startH w1 from⟨qQb hb1 (by simp) (qQk _ _ _ rfl),hgE,by simp at hE;omega,((Below.refl _ _).alloc (kQh _) _).trans (hb1.mono (by simp))⟩)
 clear hE hgE hb1
 go_wp2_with fail
 go_loopw [9] (fun i wr=>∃j:Nat,j≤n∧i=.int .i64 (j:Int)∧SmW w (kQc 32 0) E (qXz startH (ls.take j).flatten) wr) (fun i _=>n-(intOf i).toNat)
 case atStart=>exact⟨0,Nat.zero_le _,rfl,S1.out⟩
 case round=>
  obtain⟨j,hj,rfl,hs⟩:=hrel
  have J:=Lh hj
  have S2:=Lh hs
  obtain⟨q,hq⟩:∃q,q=qXz startH (ls.take j).flatten:=⟨_,rfl⟩
  rw[←hq]at S2
  have QQ:=Lh hq
  have KQ:=Lh (show q.ok by rw [hq];exact qWq startH_ok _)
  have NQ:=Lh (show q.n=(ls.take j).flatten.length by rw [hq,qJc];simp [startH])
  clear hj hs hq S1
  by_cases hlt:j<n
  ·have hD:decide ((j:Int)<(n:Int))=true:=by simp;omega
   obtain⟨l,hl⟩:∃l,ls[j]?=some l:=⟨_,kQi (by rw [NL.out];exact hlt)⟩
   obtain⟨v,hv,A',c',rfl,hc',hR'⟩:=HA.out.get j l hl
   obtain⟨b,o,rfl,hcell⟩:=(HR.out.keep S2.out.bel) j _ hv
   have L1:=Lh hl
   have R1:=Lh (hR'.keep S2.out.bel)
   have L2:=Lh (fun h0=>hR'.lt h0)
   have C1:=Lh hc'
   have FL:=Lh (show(ls.take (j+1)).flatten=(ls.take j).flatten++l by rw [List.take_add_one,hl];simp)
   have BL:=Lh (show(ls.take j).flatten.length+l.length≤140737488355000 by
    have h1:=congrArg List.length FL.out
    rw[kQj]at h1
    have h2:(ls.take (j+1)).flatten.length≤ls.flatten.length:=by
     rw[show ls.flatten=(ls.take (j+1)).flatten++(ls.drop (j+1)).flatten by rw [←List.flatten_append,List.take_append_drop],kQj]
     omega
    have:=HB.out
    omega)
   obtain⟨m,hm⟩:∃m,m=l.length:=⟨_,rfl⟩
   rw[←hm]at hcell
   have M:=Lh hm
   clear hl hv hc' hR' hm
   go_wp2_with fail
   refine(qJo true E q KQ.out _ A' m c' l M.out.symm (by rw [M.out];exact C1.out) R1.out (fun h0 a ea=>by have:=L2.out h0 a ea;have:=S2.out.hE;omega) (by rw [NQ.out,M.out];have:=BL.out;omega) S2.out.be).mono ?_
   rintro e w2 ⟨rfl,hg2,hgr2⟩
   have S3:=Lh (S2.out.step hg2 hgr2)
   clear hg2 hgr2 hcell
   go_wp2_with fail
   go_roundw
   case rel=>
    refine⟨j+1,by omega,by go_num,?_⟩
    rw[FL.out,qXb,←QQ.out]
    exact S3.out
   case measure=>simp [intOf];omega
  ·have hjn:Hid (j=n):=show j=n by have:=J.out;omega
   have hD:decide ((j:Int)<(n:Int))=false:=by simp;omega
   go_wp2_with fail
   refine(hsum_any true E q KQ.out _ (by rw [NQ.out,hjn.out,←NL.out,List.take_length];exact HB.out) S2.out.be).mono ?_
   rintro e w2 ⟨rfl,hb2⟩
   have S3:=Lh (S2.out.keep hb2)
   clear hb2
   obtain⟨L,hL⟩:∃L,L=sumH (if true=true then q else startH):=⟨_,rfl⟩
   rw[←hL]
   have LL:=Lh (show L.length=32 by rw [hL,sumH_length])
   have LE:=Lh (show L=qZ8 ls.flatten by rw [hL,if_pos rfl,QQ.out,hjn.out,←NL.out,List.take_length];rfl)
   clear hL
   have Z:=Lh (show(Tryz.prog.info? 37).map (·.size)=some (W8 L).size by rw [qQw,LL.out];kernel_rfl)
   go_wp2_with (refine qQf rfl rfl 37 (.tmp 2) (.tmp 18) rfl w.heap.size (W8 L) rfl rfl 37 _ S3.out.bo Z.out (by rw [qQw,qQw,LL.out];simp) (qZg _) ?_;intro w8 hz8 hg8 _)
   refine bodyPost_ret (results_cell_row rfl _ _ w.heap.size 37 (W8 L) (0,0) _ rfl hz8 Tryz.underlying37 rfl Z.out) rfl ⟨?_,?_⟩
   ·rw [LE.out]
   ·exact S3.out.bel.trans (qQi hg8 (Nat.le_of_lt (qQe S3.out.bo)) (by rintro g ⟨⟩;omega))
theorem shaSum_any (w:World) (A:Option Addr) (n c:Nat) (l:List UInt8) (hn:l.length=n) (hc:n≤c) (hR:RdB w A l) (hb:n≤140737488355000) :
  Calls Tryz.prog 47 #[.slice A n c] w fun e w'=>e=.returned (.agg (W8 (qZ8 l)))∧Below w.heap.size w w':=by
 have HN:=Lh hn
 have HC:=Lh hc
 have HR:=Lh hR
 have HB:=Lh hb
 have Z32:=Lh qJn
 clear hn hc hR hb
 go_enter Tryz.func47,Tryz.ntmps47
 go_wp2_with fail
 rw[←Z32.out]
 obtain⟨w1,hw1⟩:∃w1,w1=(w.alloc (.cells (W8 (kQc 32 0)) 37)):=⟨_,rfl⟩
 have S1:=Lh (show w1.heap[w.heap.size]?=some (.cells (W8 (kQc 32 0)) 37 (0,0))∧Below w.heap.size w w1∧w1.heap.size=w.heap.size+1 by rw [hw1];exact⟨qQk _ _ _ rfl,(Below.refl _ _).alloc (kQh _) _,qQD _ _⟩)
 rw[←hw1]
 have B2:=Lh (show Below w1.heap.size w1 (w1.alloc (.cells #[.slice A n c] 22))from(Below.refl _ _).alloc (kQh _) _)
 refine(of_any _ (some ⟨w.heap.size+1,0,none⟩) 1 1 [.slice A n c] [l] rfl (RdV.one (qQg (fr:=(0,0)) (qQk w1 _ _ S1.out.2.2.symm) 0 rfl)) (.cons ⟨A,c,by rw [HN.out],by rw [HN.out];exact HC.out,(HR.out.keep S1.out.2.1).keep B2.out⟩ .nil) (by simp [HN.out];exact HB.out) (by omega)).mono ?_
 rintro e w2 ⟨rfl,hb2⟩
 have B3:=Lh (B2.out.trans (hb2.mono (by simp)))
 have G3:=Lh (qQb B3.out (qQe S1.out.1) S1.out.1)
 obtain⟨L,hL⟩:∃L,L=qZ8 ([l].flatten):=⟨_,rfl⟩
 rw[←hL]
 have LL:=Lh (show L.length=32 by rw [hL,qZW])
 have LE:=Lh (show L=qZ8 l by rw [hL];simp)
 have Z:=Lh (show(Tryz.prog.info? 37).map (·.size)=some (W8 L).size by rw [qQw,LL.out];kernel_rfl)
 clear hL hb2 hw1
 go_wp2_with (refine qQf rfl rfl 37 (.tmp 2) (.tmp 5) rfl w.heap.size (W8 L) rfl rfl 37 _ G3.out Z.out (by rw [qQw,qQw,LL.out];simp) (qZg _) ?_;intro w8 hz8 hg8 _)
 refine bodyPost_ret (results_cell_row rfl _ _ w.heap.size 37 (W8 L) (0,0) _ rfl hz8 Tryz.underlying37 rfl Z.out) rfl ⟨?_,?_⟩
 ·rw [LE.out]
 ·exact(S1.out.2.1.trans (B3.out.mono S1.out.2.1.size)).trans (qQi hg8 (Nat.le_of_lt (qQe G3.out)) (by rintro g ⟨⟩;omega))
end Go.Proofs.YtlocplkjokoknaaGreat
namespace Go.Proofs.YtlocplkjokoknaaGreat
open Go.RowKit
theorem qVx (w:World) (A:Option Addr) (n c:Nat) (l:List UInt8) (hn:l.length=n) (hR:RdB w A l) (hb:n≤140737488355328) :
  Calls Tryz.prog 60 #[.slice A n c] w fun e w'=>∃v,e=.returned v∧OwnB w' w.heap.size v l∧Below w.heap.size w w':=by
 have TB:=Lh (show qXA Tryz.prog from⟨Tryz.underlying22,by kernel_rfl⟩)
 have q22:∀(w:World) (a:Option Addr) (n c n' c':Nat),(binOp .eql 22 (.slice a n c) (.slice none n' c')).run Tryz.prog w=.ok (.bool a.isNone) w:=fun w a n c n' c'=>Lib.run_eql_slice_nil w _ _ a n c n' c' Tryz.underlying22
 have HR:=Lh hR
 have HN:=Lh hn
 clear hR hn
 rcases A with _|ad
 ·have hl:l=[]:=by
   rcases l with _|⟨x,r⟩
   ·rfl
   ·obtain⟨b,o,e,_⟩:=HR.out 0 (by simp)
    cases e
  have HL:=Lh hl
  clear hl
  go_enter Tryz.func60,Tryz.ntmps60
  go_wp2_with fail
  go_ret
  exact⟨_,rfl,by rw [HL.out];exact OwnB.nil _ _,Below.refl _ _⟩
 ·go_enter Tryz.func60,Tryz.ntmps60
  go_wp2_with (refine qX1 rfl TB.out (.tmp 5) (.tmp 6) rfl w.heap.size _ [] l (some ad) n c rfl rfl HN.out (World.ownsRow_made w #[] 0 (kQh _) (Nat.zero_le _) rfl) ?c1 ?c2 ?c3 ?_)
  case c1=>exact HR.out.grown (World.grownBy_alloc w _ _) (fun g e a ea=>by cases e) (r:=none)
  case c2=>simp
  case c3=>simp;omega
  intro v1 w1 ho hg hv
  go_wp2_with fail
  go_ret
  exact⟨_,rfl,by simpa using ho,((Below.refl _ _).alloc (kQh _) _).trans (qQi hg (by simp) (fun g e=>by simp [Value.ownBlock]at e;omega))⟩
end Go.Proofs.YtlocplkjokoknaaGreat
namespace Go.Proofs.YtlocplkjokoknaaGreat
open Go.RowKit
attribute [local go_sem ↓] Go.wp_at_zero Go.wp_at_succ
def beL:Nat→Nat→List UInt8
 | 0,_=>[]
 | k+1,x=>UInt8.ofNat (x/2 ^ (8*k))::beL k x
theorem qZj (k x:Nat):(beL k x).length=k:=by
 induction k with
 | zero=>rfl
 | succ k ih=>simp [beL,ih]
def putN (n:Int):Nat:=(min n 8).toNat
theorem putN_ex (k:Int) (h : -100≤k∧k≤100):∃m:Int,(if (8:Int)<k then(8:Int)else k)=m∧IntKind.i64.wrap (m-1)=m-1∧Hid (m=(putN k:Int)∨(putN k=0∧m≤0))∧-100≤m∧m≤8:=by
 refine⟨min k 8,?_,?_,?_,by omega,by omega⟩
 ·split<;>omega
 ·rw [IntKind.wrap_i64];omega
 ·show _∨_
  unfold putN
  omega
theorem put_byte_ex (x:UInt64) (r:Nat):∃z:UInt8,Hid (z=UInt8.ofNat (x.toNat/2 ^ (8*r)))∧IntKind.u8.wrap ((x.toNat:Int)/2 ^ (8*r))=(z.toNat:Int):=by
 refine⟨_,rfl,?_⟩
 rw[IntKind.wrap_u8]
 have:((x.toNat:Int)/2 ^ (8*r))=((x.toNat/2 ^ (8*r):Nat):Int):=by
  rw[Int.natCast_ediv,Int.natCast_pow];rfl
 rw[this]
 simp
theorem put_any (w:World) (A:Option Addr) (n c:Nat) (l:List UInt8) (x:UInt64) (k:Int) (hk : -100≤k∧k≤100) (hn:l.length=n) (hR:RdB w A l) (hb:n≤140737488355320) :
  Calls Tryz.prog 73 #[.slice A n c,.int .u64 (x.toNat:Int),.int .i64 k] w fun e w'=>∃v,e=.returned v∧OwnB w' w.heap.size v (l++beL (putN k) x.toNat)∧Below w.heap.size w w':=by
 have TB:=Lh (show qXA Tryz.prog from⟨Tryz.underlying22,by kernel_rfl⟩)
 have HR:=Lh hR
 have HN:=Lh hn
 have HB:=Lh hb
 clear hR hn hb
 go_enter Tryz.func73,Tryz.ntmps73
 go_wp2_with fail
 refine(qVx w A n c l HN.out HR.out (by have:=HB.out;omega)).mono ?_
 rintro e w1 ⟨v,rfl,ho,hb1⟩
 have O1:=Lh ho
 have B1:=Lh hb1
 clear ho hb1 HR
 obtain⟨m,hm,hm1,hm2,hm3,hm4⟩:=putN_ex k hk
 have e1:wrap64 (m-1)=m-1:=by unfold wrap64;omega
 go_wp2_with fail
 clear hm hm1 e1
 go_loopw [7,8] (fun v i wr=>∃(r:Nat) (pre:List UInt8),r≤8∧pre.length+r≤n+8∧(i=.int .i64 ((r:Int)-1)∨(r=0∧∃i':Int,i=.int .i64 i'∧i'<0))∧pre++beL r x.toNat=l++beL (putN k) x.toNat∧OwnB wr w.heap.size v pre∧Below w.heap.size w wr) (fun _ i _=>(intOf i+1).toNat)
 case atStart=>
  refine⟨putN k,l,by unfold putN;omega,by have:=HN.out;unfold putN;omega,?_,rfl,O1.out,B1.out⟩
  rcases hm2.out with h|⟨h0,h1⟩
  ·exact .inl (by rw [h])
  ·exact .inr ⟨h0,_,rfl,by omega⟩
 case round=>
  obtain⟨r,pre,hr8,hrl,hi,hpre,ho,hb⟩:=hrel
  have R8:=Lh hr8
  have RL:=Lh hrl
  have PRE:=Lh hpre
  have O2:=Lh ho
  have B2:=Lh hb
  clear hr8 hrl hpre ho hb O1 B1 w1
  rcases r with _|r
  ·obtain⟨i,rfl,hi0⟩:∃i:Int,u8=.int .i64 i∧i<0:=by
    rcases hi with h|⟨_,i',h,h1⟩
    ·exact⟨_,h,by simp⟩
    ·exact⟨i',h,h1⟩
   have hD:decide ((0:Int)≤i)=false:=by simp;omega
   clear hi
   go_wp2_with fail
   go_ret
   refine⟨_,rfl,?_,B2.out⟩
   have:=PRE.out
   rw[beL,List.append_nil]at this
   rw[←this]
   exact O2.out
  ·obtain rfl:u8=.int .i64 (r:Int):=by
    rcases hi with h|⟨h,_⟩
    ·rw [h];congr 1;omega
    ·omega
   clear hi
   have hD:decide ((0:Int)≤(r:Int))=true:=by simp
   have e2:8*(r:Int)≤64:=by have:=R8.out;omega
   have e4:(8*(r:Int)).toNat=8*r:=by omega
   obtain⟨z,hz,e3⟩:=put_byte_ex x r
   go_wp2_with (refine qX1 rfl TB.out (.tmp 18) (.tmp 24) rfl w.heap.size u7 pre [z] (some ⟨wr.heap.size,0,none⟩) 1 1 rfl rfl rfl (O2.out.alloc _) (RdB.one (qQg (fr:=(0,0)) (qQk wr _ _ rfl) 0 rfl)) ?c1 ?c2 ?_)
   case c1=>have:=B2.out.size;rw [qQD];omega
   case c2=>have:=RL.out;have:=HB.out;omega
   intro v1 w1 ho hg hv
   have O3:=Lh ho
   have B3:=Lh (show Below w.heap.size w w1 from(B2.out.alloc B2.out.size _).trans (qQi hg (by rw [qQD];have:=B2.out.size;omega) (fun g e=>(O2.out.lt g e).1)))
   clear ho hg hv O2 B2
   go_wp2_with fail
   go_roundw
   case rel=>
    refine⟨r,pre++[z],by have:=R8.out;omega,by have:=RL.out;simp;omega,.inl (by go_num),?_,O3.out,B3.out⟩
    rw[←PRE.out,beL,←hz.out,List.append_assoc]
    rfl
   case measure=>simp [intOf]<;>omega
def SrcL (fv:Value) (seed:List UInt8) (begun:Bool) (u bk:Nat) (held:Bool) (blk:List UInt8):List Value:=
 fv::(B8 seed++(.bool begun :: .int .i64 (u:Int) :: .int .i64 (bk:Int) :: .bool held::B8 blk))
def SrcC (fv:Value) (seed:List UInt8) (begun:Bool) (u bk:Nat) (held:Bool) (blk:List UInt8):Array Value:=(SrcL fv seed begun u bk held blk).toArray
section
variable {fv:Value} {seed blk:List UInt8} {begun held:Bool} {u bk:Nat}
theorem qJQ (hs:seed.length=32) (hb:blk.length=32):(SrcC fv seed begun u bk held blk).size=69:=by simp [SrcC,SrcL,qQt,hs,hb]
theorem SrcC_f:(SrcC fv seed begun u bk held blk)[0]?=some fv:=by simp [SrcC,SrcL]
theorem qVE (hs:seed.length=32) (i:Nat):(SrcL fv seed begun u bk held blk)[33+i]?=(Value.bool begun :: .int .i64 (u:Int) :: .int .i64 (bk:Int) :: .bool held::B8 blk)[i]?:=by
 rw[SrcL,show 33+i=(32+i)+1 by omega,kQe,kQq (by rw [qQt,hs];omega),qQt,hs,show 32+i-32=i by omega]
theorem qYY (hs:seed.length=32):(SrcC fv seed begun u bk held blk)[33]?=some (.bool begun):=by
 rw[SrcC,kQd,qVE hs 0];rfl
theorem SrcC_u (hs:seed.length=32):(SrcC fv seed begun u bk held blk)[34]?=some (.int .i64 (u:Int)):=by
 rw[SrcC,kQd,qVE hs 1];rfl
theorem SrcC_bk (hs:seed.length=32):(SrcC fv seed begun u bk held blk)[35]?=some (.int .i64 (bk:Int)):=by
 rw[SrcC,kQd,qVE hs 2];rfl
theorem SrcC_held (hs:seed.length=32):(SrcC fv seed begun u bk held blk)[36]?=some (.bool held):=by
 rw[SrcC,kQd,qVE hs 3];rfl
theorem SrcC_blk (hs:seed.length=32) (i:Nat) (hi:i<blk.length):(SrcC fv seed begun u bk held blk)[37+i]?=some (.int .u8 ((blk.getD i 0).toNat:Int)):=by
 rw[SrcC,kQd,show 37+i=33+(i+4) by omega,qVE hs]
 simp [B8,hi]
theorem SrcC_seed (i:Nat) (hi:i<seed.length):(SrcC fv seed begun u bk held blk)[1+i]?=some (.int .u8 ((seed.getD i 0).toNat:Int)):=by
 rw[SrcC,kQd,SrcL,show 1+i=i+1 by omega,kQe,List.getElem?_append_left (by rw [qQt];exact hi)]
 simp [B8,hi]
theorem qYo (hs:seed.length=32) (b2:Bool):(SrcC fv seed begun u bk held blk).setIfInBounds 33 (.bool b2)=SrcC fv seed b2 u bk held blk:=by
 rw[SrcC,SrcC,pq1,SrcL,SrcL,pq3,List.set_append_right _ _ (by rw [qQt,hs];omega),qQt,hs]
 rfl
theorem SrcC_set_u (hs:seed.length=32) (u2:Nat):(SrcC fv seed begun u bk held blk).setIfInBounds 34 (.int .i64 (u2:Int))=SrcC fv seed begun u2 bk held blk:=by
 rw[SrcC,SrcC,pq1,SrcL,SrcL,pq3,List.set_append_right _ _ (by rw [qQt,hs];omega),qQt,hs]
 rfl
theorem SrcC_put_seed (hs:seed.length=32) (v:List UInt8) (hv:v.length=32) :
  ((SrcC fv seed begun u bk held blk).toList.take 1++((W8 v).toList++(SrcC fv seed begun u bk held blk).toList.drop (1+(W8 v).size))).toArray=SrcC fv v begun u bk held blk:=by
 rw[qQw,hv]
 simp only [SrcC,SrcL,List.take_succ_cons,List.take_zero,Nat.add_comm 1 32,List.drop_succ_cons]
 rw[List.drop_append_of_le_length (by rw [qQt,hs];omega),kQt (by rw [qQt,hs];omega)]
 simp [W8,B8]
theorem SrcC_put_at (hs:seed.length=32) (u2 bk2:Nat) (h2:Bool) :
  ((SrcC fv seed begun u bk held blk).toList.take 34++(([.int .i64 (u2:Int),.int .i64 (bk2:Int),.bool h2]:List Value)++(SrcC fv seed begun u bk held blk).toList.drop (34+3))).toArray=SrcC fv seed begun u2 bk2 h2 blk:=by
 have e1:(SrcL fv seed begun u bk held blk).take 34=fv::(B8 seed++[.bool begun]):=by
  rw[SrcL,List.take_succ_cons,List.take_append,kQn (by rw [qQt,hs];omega),qQt,hs]
  rfl
 have e2:(SrcL fv seed begun u bk held blk).drop 37=B8 blk:=by
  rw[SrcL,List.drop_succ_cons,List.drop_append,kQt (by rw [qQt,hs];omega),qQt,hs]
  rfl
 rw[SrcC,SrcC]
 simp only [Nat.reduceAdd]
 rw[e1,e2]
 simp [SrcL]
theorem SrcC_put_blk (hs:seed.length=32) (hb:blk.length=32) (v:List UInt8) (hv:v.length=32) :
  ((SrcC fv seed begun u bk held blk).toList.take 37++((W8 v).toList++(SrcC fv seed begun u bk held blk).toList.drop (37+(W8 v).size))).toArray=SrcC fv seed begun u bk held v:=by
 have e1:(SrcL fv seed begun u bk held blk).take 37=fv::(B8 seed++[.bool begun,.int .i64 (u:Int),.int .i64 (bk:Int),.bool held]):=by
  rw[SrcL,List.take_succ_cons,List.take_append,kQn (by rw [qQt,hs];omega),qQt,hs]
  rfl
 have e2:(SrcL fv seed begun u bk held blk).drop 69=[]:=kQt (by have:=@qJQ fv seed blk begun held u bk hs hb;simp only [SrcC,List.size_toArray]at this;omega)
 rw[SrcC,SrcC,qQw,hv]
 simp only [Nat.reduceAdd]
 rw[e1,e2]
 simp [SrcL,W8,B8]
end
def qJ8 (F:List UInt8) (i:Nat):UInt8:=if i<F.length then F.getD i 0 else(qZ8 (qZ8 F++beL 8 ((i-F.length)/32))).getD ((i-F.length) % 32) 0
structure Src (g D:Nat) (F:List UInt8) (u:Nat) (b:Bool) (W:World):Prop where
 has:∃A c seed begun bk held blk,W.heap[g]?=some (.cells (SrcC (.slice A F.length c) seed begun u bk held blk) 85 (0,0))∧F.length≤c∧RdB W A F∧(∀a,A=some a→a.block≠g∧a.block<W.heap.size∧a.block=D)∧seed.length=32∧blk.length=32∧(begun=true→seed=qZ8 F)∧(held=true→begun=true∧blk=qZ8 (qZ8 F++beL 8 bk))∧(b=true→begun=true)
theorem Src.lt {g D:Nat} {F:List UInt8} {u:Nat} {b:Bool} {W:World} (h:Src g D F u b W):g<W.heap.size:=by
 obtain⟨A,c,seed,begun,bk,held,blk,h1,_⟩:=h.has
 exact qQe h1
theorem Src.keep {g D:Nat} {F:List UInt8} {u:Nat} {b:Bool} {W W':World} (h:Src g D F u b W) (hb:Below W.heap.size W W'):Src g D F u b W':=by
 obtain⟨A,c,seed,begun,bk,held,blk,h1,h2,h3,h4,h5⟩:=h.has
 exact⟨A,c,seed,begun,bk,held,blk,qQb hb (qQe h1) h1,h2,h3.keep hb,fun a e=>⟨(h4 a e).1,kQb (h4 a e).2.1 hb.size,(h4 a e).2.2⟩,h5⟩
theorem Src.far {g D:Nat} {F:List UInt8} {u:Nat} {b:Bool} {W W':World} {r:Option Nat} (h:Src g D F u b W) (hg:W.grownBy W' r) (hr:∀k,r=some k→k≠g∧k≠D):Src g D F u b W':=by
 obtain⟨A,c,seed,begun,bk,held,blk,h1,h2,h3,h4,h5⟩:=h.has
 exact⟨A,c,seed,begun,bk,held,blk,qQd hg (fun e=>(hr g e.symm).1 rfl) h1,h2,h3.grown hg (fun k e a ea=>by have:=(h4 a ea).2.2;have:=(hr k e).2;omega),fun a e=>⟨(h4 a e).1,kQb (h4 a e).2.1 hg.size,(h4 a e).2.2⟩,h5⟩
theorem qYs (g D:Nat) (F:List UInt8) (u:Nat) (b:Bool) (w:World) (h:Src g D F u b w) (hb:F.length≤100000) :
  Calls Tryz.prog 24 #[.pointer (some ⟨g,0,none⟩)] w fun e w'=>e=.returned (.tuple #[])∧Src g D F u true w'∧w.grownBy w' (some g):=by
 obtain⟨A,c,seed,begun,bk,held,blk,h1,h2,h3,h4,hs,hk,h5,h6,h7⟩:=h.has
 obtain⟨n,hn⟩:∃n,n=F.length:=⟨_,rfl⟩
 rw[←hn]at h1 h2 hb
 have NE:=Lh hn.symm
 have GA:=Lh h1
 have HC:=Lh h2
 have RA:=Lh h3
 have HA:=Lh h4
 have HS:=Lh hs
 have HK:=Lh hk
 have H5:=Lh h5
 have H6:=Lh h6
 have NB:=Lh hb
 have c33:=qQg h1 33 (qYY hs)
 have c0:=qQg h1 0 SrcC_f
 clear h h1 h2 h3 h4 hs hk h5 h6 h7 hn hb
 go_enter Tryz.func24,Tryz.ntmps24
 rcases begun with _|_
 ·go_wp2_with fail
  refine(shaSum_any w A n c F NE.out HC.out RA.out (by have:=NB.out;omega)).mono ?_
  obtain⟨L,hL⟩:∃L,L=qZ8 F:=⟨_,rfl⟩
  rw[←hL]
  have LE:=Lh hL
  have LL:=Lh (show L.length=32 by rw [hL,qZW])
  have Z:=Lh (show(Tryz.prog.info? 37).map (·.size)=some (W8 L).size by rw [qQw,LL.out];kernel_rfl)
  rintro e w1 ⟨rfl,hb1⟩
  have GA:=Lh (qQb hb1 (qQe GA.out) GA.out)
  have B1:=Lh hb1
  clear hL hb1 c33 c0
  go_wp2_with (refine qXr rfl 37 (.tmp 15) (.tmp 13) rfl g 1 (W8 L) rfl rfl _ _ GA.out Z.out (by rw [qJQ HS.out HK.out,qQw,LL.out];decide) (qZg _) ?_;intro w2 hg2 hgr2 hs2;rw [SrcC_put_seed HS.out _ LL.out]at hg2;have c33:=qQg hg2 33 (qYY LL.out);have f33:=qQz hg2 33;have G2:=Lh hg2;have R2:=Lh hgr2;clear hg2 hgr2 hs2)
  go_end0
  have hw:w.grownBy (w2.setCell ⟨g,33,none⟩ (.bool true)) (some g):=World.grownBy.trans (qQJ B1.out |>.mono_none) (World.grownBy.trans R2.out (qQF (World.grownBy.refl _ _) _ _))
  refine⟨rfl,⟨A,c,L,true,bk,held,blk,?_,by rw [NE.out];exact HC.out,RA.out.grown hw (fun k e a ea=>by cases e;exact(HA.out a ea).1),fun a ea=>⟨(HA.out a ea).1,kQb (HA.out a ea).2.1 hw.size,(HA.out a ea).2.2⟩,LL.out,HK.out,fun _=>LE.out,fun e=>?_,fun _=>rfl⟩,hw⟩
  ·rw [heap_setCell_same _ _ _ _ _ _ G2.out,qYo LL.out,NE.out]
  ·have:=(H6.out e).1
   cases this
 ·go_wp2_with fail
  go_end0
  exact⟨rfl,⟨A,c,seed,true,bk,held,blk,by rw [NE.out];exact GA.out,by rw [NE.out];exact HC.out,RA.out,HA.out,HS.out,HK.out,fun _=>H5.out trivial,fun e=>⟨rfl,(H6.out e).2⟩,fun _=>rfl⟩,World.grownBy.refl _ _⟩
def plV (u bk:Nat) (held:Bool):Value:=.agg #[.int .i64 (u:Int),.int .i64 (bk:Int),.bool held]
theorem qY8 {o:Oper} {a:Act} (x y:Operand) (ho:o.op=.binOp .neq 83 x y 83) (u bk n:Nat) (held:Bool) (hx:a.eval x=plV u bk held) (hy:a.eval y=plV u n true) (W:World) :
  (execOp a.eval o).run Tryz.prog W=.ok (.value (.bool (!(decide (bk=n)&&held)))) W:=by
 unfold execOp plV at *
 simp only [ho,hx,hy,Sem.run_bind,Sem.run_pure]
 have h1:((bk:Int)==(n:Int))=decide (bk=n):=by rw [Bool.eq_iff_iff];simp;omega
 cases held<;>by_cases e:bk=n
 all_goals go_simp
theorem qWz {o:Oper} {a:Act} (x:Operand) (ho:o.op=.load 83 x) (b off:Nat) (hx:a.eval x=.pointer (some ⟨b,off,none⟩)) (u bk:Nat) (held:Bool) {W:World}
  (h0:W.cell? ⟨b,off,none⟩=some (.int .i64 (u:Int))) (h1:W.cell? ⟨b,off+1,none⟩=some (.int .i64 (bk:Int))) (h2:W.cell? ⟨b,off+2,none⟩=some (.bool held)) :
  (execOp a.eval o).run Tryz.prog W=.ok (.value (plV u bk held)) W:=by
 have hr:W.rangeAt b off [.int .i64 (u:Int),.int .i64 (bk:Int),.bool held]:=by
  intro j v hj
  match j,hj with
  | 0,hj=>simp at hj;subst hj;exact h0
  | 1,hj=>simp at hj;subst hj;exact h1
  | 2,hj=>simp at hj;subst hj;exact h2
 unfold execOp
 simp only [ho,hx,Instr.loadAt,Instr.sureAddr,Sem.run_bind,Sem.run_pure,Result.andThen_ok,run_loadVar_mid W b off _ _ _ hr Tryz.underlying83 rfl (show(Tryz.prog.info? 83).map (·.size)=some 3 by kernel_rfl)]
 rfl
theorem same_false (bk n:Nat) (held:Bool) (h:¬(bk=n∧held=true)):(!(decide (bk=n)&&held))=true:=by
 cases held
 ·simp
 ·have:¬bk=n:=fun e=>h ⟨e,rfl⟩
  simp [this]
theorem same_true (bk n:Nat) (held:Bool) (h1:bk=n) (h2:held=true):(!(decide (bk=n)&&held))=false:=by rw [h1,h2];simp
def qV1 (F:List UInt8) (n:Nat):List UInt8:=qZ8 (qZ8 F++beL 8 n)
theorem behind_any (g D:Nat) (F:List UInt8) (u:Nat) (w:World) (h:Src g D F u true w) (hb:F.length≤100000) (hu:u≤1000000) (i:Nat) (hi:i≤1000000) :
  Calls Tryz.prog 108 #[.pointer (some ⟨g,0,none⟩),.int .i64 (i:Int)] w fun e w'=>e=.returned (.int .u8 (((qV1 F (i/32)).getD (i % 32) 0).toNat:Int))∧Src g D F u true w'∧w.grownBy w' (some g):=by
 obtain⟨A,c,seed,begun,bk,held,blk,h1,h2,h3,h4,hs,hk,h5,h6,h7⟩:=h.has
 obtain rfl:begun=true:=h7 rfl
 have HF:=Lh (show F.length≤c from h2)
 have RA:=Lh h3
 have HA:=Lh h4
 have HS:=Lh hs
 have HK:=Lh hk
 have H5:=Lh (h5 rfl)
 have H6:=Lh (fun e=>(h6 e).2)
 have GA:=Lh h1
 have ub:(u:Int)≤1000000:=by omega
 obtain⟨x,hx⟩:∃x:UInt64,x.toNat=i/32:=⟨UInt64.ofNat (i/32),by simp;omega⟩
 obtain⟨n,hn⟩:∃n,n=i/32:=⟨_,rfl⟩
 obtain⟨r,hr⟩:∃r,r=i % 32:=⟨_,rfl⟩
 rw[←hn,←hr]
 rw[←hn]at hx
 have XN:=Lh hx
 clear hx
 have e1:(i:Int).tdiv 32=(n:Int):=by rw [Int.tdiv_eq_ediv_of_nonneg (by omega)];omega
 have e2:(i:Int).tmod 32=(r:Int):=by rw [Int.tmod_eq_emod_of_nonneg (by omega)];omega
 have nb:(n:Int)≤1000000:=by omega
 have rb:(r:Int)<32:=by omega
 have ib:(i:Int)≤1000000:=by omega
 obtain⟨y,hy⟩:∃y,y=(qV1 F n).getD r 0:=⟨_,rfl⟩
 rw[←hy]
 have Y:=Lh hy
 clear hy
 have R32:=Lh (show r<32 by omega)
 have c34:=qQg h1 34 (SrcC_u hs)
 obtain⟨fv,hfv⟩:∃fv,fv=Value.slice A F.length c:=⟨_,rfl⟩
 rw[←hfv]at GA
 have FV:=Lh hfv
 clear hfv h h1 h2 h3 h4 hs hk h5 h6 h7 hn hr hi hu hb
 go_enter Tryz.func108,Tryz.ntmps108
 go_upto_region 3 with fail
 obtain⟨E,hE⟩:∃E,E=w.heap.size:=⟨_,rfl⟩
 generalize hw:World.alloc w _=w1
 have hb1:Below w.heap.size w w1:=by rw [←hw];exact qQh _ _
 have GE:=Lh (show g<E by rw [hE];exact qQe GA.out)
 have S:=Lh (show w1.heap[g]?=some (.cells (SrcC fv seed true u bk held blk) 85 (0,0))∧w1.heap[E]?=some (.cells #[.int .i64 (u:Int),.int .i64 (n:Int),.bool true] 83 (0,0))from
  ⟨qQb hb1 (qQe GA.out) GA.out,by rw [←hw];exact qQk _ _ _ hE⟩)
 have B1:=Lh hb1
 rw[←hE]
 clear hw hb1 hE c34
 have SD:=Lh (show w1.drew.heap[g]?=some (.cells (SrcC fv seed true u bk held blk) 85 (0,0))∧w1.drew.heap[E]?=some (.cells #[.int .i64 (u:Int),.int .i64 (n:Int),.bool true] 83 (0,0))from S.out)
 refine qQu (fun W=>W.heap[g]?=some (.cells (SrcC fv seed true u bk held blk) 85 (0,0))∧W.heap[E]?=some (.cells #[.int .i64 (u:Int),.int .i64 (n:Int),.bool true] 83 (0,0))) [(true,0),(true,1),(true,2),(true,3),(true,4),(true,5)] (by kernel_rfl) (by kernel_rfl) (fun _ _ d _ _ h=>by cases d<;>exact h) ?_
 simp only [kQl,kQm,kQd,kQg,kQe,kQo]
 refine qQc (by rfl) SD.out (fun W hW=>by go_simp;rfl) ?_
 simp only [Act.put,pq1,pq2,pq3]
 refine qQc (by rfl) SD.out (fun W hW=>by go_simp;rfl) ?_
 simp only [Act.put,pq1,pq2,pq3]
 refine qQc (by rfl) SD.out (fun W hW=>by go_simp;rfl) ?_
 simp only [Act.put,pq1,pq2,pq3]
 refine qQc (by rfl) SD.out (fun W hW=>qWz (.tmp 18) rfl g 34 rfl u bk held (qQg hW.1 34 (SrcC_u HS.out)) (qQg hW.1 35 (SrcC_bk HS.out)) (qQg hW.1 36 (SrcC_held HS.out))) ?_
 simp only [Act.put,pq1,pq2,pq3]
 refine qQc (by rfl) SD.out (fun W hW=>qWz (.tmp 6) rfl E 0 rfl u n true (qQg hW.2 0 rfl) (qQg hW.2 1 rfl) (qQg hW.2 2 rfl)) ?_
 simp only [Act.put,pq1,pq2,pq3]
 refine qQc (by rfl) SD.out (fun W hW=>qY8 (.tmp 19) (.tmp 20) rfl u bk n held rfl rfl W) ?_
 simp only [Act.put,pq1,pq2,pq3]
 refine qQG ?_
 have B1:=Lh (B1.out.trans (Below.refl _ _).drew)
 generalize World.drew w1=w2 at *
 have BN:=Lh (show(qV1 F n).length=32 from qZW _)
 have GR:=Lh (show w.grownBy w2 (some g)from(qQJ B1.out).mono_none)
 clear S
 go_upto_if 21 with fail
 go_cut [0] (fun v wx=>v=.pointer (some ⟨g,0,none⟩)∧wx.heap[g]?=some (.cells (SrcC fv seed true u n true (qV1 F n)) 85 (0,0))∧w.grownBy wx (some g))
 case first=>
  by_cases hsame:bk=n∧held=true
  ·obtain⟨h1,h2⟩:=hsame
   have SE:=Lh (show w2.heap[g]?=some (.cells (SrcC fv seed true u n true (qV1 F n)) 85 (0,0)) by
    have h3:=H6.out h2
    rw[h1]at h3
    have h4:=SD.out.1
    rw[h1,h2,h3]at h4
    exact h4)
   have hB:=same_true bk n held h1 h2
   clear h1 h2
   generalize (!(decide (bk=n)&&held))=B at hB ⊢
   subst hB
   go_wp2_with fail
   go_meet
   exact⟨rfl,SE.out,GR.out⟩
  ·have hB:=same_false bk n held hsame
   generalize (!(decide (bk=n)&&held))=B at hB ⊢
   subst hB
   clear hsame
   go_upto_region 4 with fail
   have SD:=Lh (show w2.drew.heap[g]?=some (.cells (SrcC fv seed true u bk held blk) 85 (0,0))∧w2.drew.heap[E]?=some (.cells #[.int .i64 (u:Int),.int .i64 (n:Int),.bool true] 83 (0,0))from SD.out)
   have GR:=Lh (show w.grownBy w2.drew (some g)from World.grownBy.trans GR.out (qZS (World.grownBy.refl _ _)))
   generalize hw3:World.drew w2=w3 at SD GR
   refine qQu (fun _=>True) [(true,0),(true,1),(true,2),(true,3),(true,4),(true,5),(true,6),(false,7),(false,8),(false,9),(true,10),(true,11),(false,12)] (by kernel_rfl) (by kernel_rfl) (fun _ _ d _ _ h=>by cases d<;>exact h) ?_
   simp only [kQl,kQm,kQd,kQg,kQe,kQo]
   rw[hw3]
   clear hw3
   have e5:IntKind.u64.wrap (n:Int)=(n:Int):=by rw [IntKind.wrap_u64];omega
   refine qQc (by rfl) (trivial) (fun W hW=>by go_simp;rfl) ?_
   simp only [Act.put,pq1,pq2,pq3]
   refine qQc (by rfl) (trivial) (fun W hW=>by go_simp;rfl) ?_
   simp only [Act.put,pq1,pq2,pq3]
   refine qQc (by rfl) (trivial) (fun W hW=>by go_simp;rfl) ?_
   simp only [Act.put,pq1,pq2,pq3]
   refine qQc (by rfl) (trivial) (fun W hW=>by go_simp;rfl) ?_
   simp only [Act.put,pq1,pq2,pq3]
   refine qQc (by rfl) (trivial) (fun W hW=>by go_simp;rfl) ?_
   simp only [Act.put,pq1,pq2,pq3]
   refine qQc (by rfl) (trivial) (fun W hW=>by go_simp;rfl) ?_
   simp only [Act.put,pq1,pq2,pq3]
   refine qQc (by rfl) (trivial) (fun W hW=>by go_simp;rfl) ?_
   simp only [Act.put,pq1,pq2,pq3]
   clear e5
   refine qQE (by rfl) (fun K hK=>?_)
   go_simp
   refine(show Calls _ _ _ _ _ by have P:=put_any w3 none 0 0 [] x 8 (by omega) rfl (RdB.nil _ _) (by omega);rw [XN.out]at P;exact P).mono ?_
   rw[show []++beL (putN 8) n=beL 8 n from rfl]
   rintro e w4 ⟨v,rfl,ho,hb⟩
   obtain⟨Av,cv,rfl,hrv,hlv,_,_⟩:=ho.read
   rw[qZj]at hlv ⊢
   have SD:=Lh (show w4.heap[g]?=some (.cells (SrcC fv seed true u bk held blk) 85 (0,0))∧w4.heap[E]?=some (.cells #[.int .i64 (u:Int),.int .i64 (n:Int),.bool true] 83 (0,0))from⟨qQb hb (qQe SD.out.1) SD.out.1,qQb hb (qQe SD.out.2) SD.out.2⟩)
   have GR:=Lh (World.grownBy.trans GR.out (qQJ hb).mono_none)
   have RV:=Lh hrv
   have CV:=Lh hlv
   clear ho hb hrv hlv
   refine hK.out _ _ (trivial) ?_
   clear hK K
   refine qQE (by rfl) (fun K hK=>?_)
   go_simp
   generalize hB:Array.size (World.heap w4)=NB
   generalize hw:World.alloc w4 _=w5
   obtain⟨hrow5,hb5⟩:=built_rows hw hB
   have SD:=Lh (show w5.heap[g]?=some (.cells (SrcC fv seed true u bk held blk) 85 (0,0))∧w5.heap[E]?=some (.cells #[.int .i64 (u:Int),.int .i64 (n:Int),.bool true] 83 (0,0))from⟨qQb hb5 (qQe SD.out.1) SD.out.1,qQb hb5 (qQe SD.out.2) SD.out.2⟩)
   have GR:=Lh (World.grownBy.trans GR.out (qQJ hb5).mono_none)
   have RV:=Lh (RV.out.keep hb5)
   have RO:=Lh hrow5
   clear hw hB hrow5 hb5
   refine hK.out _ _ (trivial) ?_
   clear hK K
   refine qQE (by rfl) (fun K hK=>?_)
   go_simp
   refine(of_any w5 (some ⟨NB,0,none⟩) 2 2 [.slice (some ⟨g,1,none⟩) 32 32,.slice Av 8 cv] [seed,beL 8 n] rfl RO.out (.cons ⟨some ⟨g,1,none⟩,32,by rw [HS.out],by rw [HS.out];exact kQh _,fun j hj=>⟨g,1,rfl,qQg SD.out.1 (1+j) (SrcC_seed j hj)⟩⟩ (.cons ⟨Av,cv,by rw [qZj],by rw [qZj];exact CV.out,RV.out⟩ .nil)) (by simp [HS.out,qZj]) (by omega)).mono ?_
   obtain⟨L,hL⟩:∃L,L=qZ8 [seed,beL 8 n].flatten:=⟨_,rfl⟩
   rw[←hL]
   have LE:=Lh (show L=qV1 F n by rw [hL,qV1,H5.out];simp)
   have LL:=Lh (show L.length=32 by rw [hL,qZW])
   have Z:=Lh (show(Tryz.prog.info? 37).map (·.size)=some (W8 L).size by rw [qQw,LL.out];kernel_rfl)
   rintro e w6 ⟨rfl,hb⟩
   have SD:=Lh (show w6.heap[g]?=some (.cells (SrcC fv seed true u bk held blk) 85 (0,0))∧w6.heap[E]?=some (.cells #[.int .i64 (u:Int),.int .i64 (n:Int),.bool true] 83 (0,0))from⟨qQb hb (qQe SD.out.1) SD.out.1,qQb hb (qQe SD.out.2) SD.out.2⟩)
   have GR:=Lh (World.grownBy.trans GR.out (qQJ hb).mono_none)
   clear hL hb
   refine hK.out _ _ (trivial) ?_
   clear hK K
   refine qQc (by rfl) (trivial) (fun W hW=>by go_simp;rfl) ?_
   simp only [Act.put,pq1,pq2,pq3]
   refine qQc (by rfl) (trivial) (fun W hW=>by go_simp;rfl) ?_
   simp only [Act.put,pq1,pq2,pq3]
   refine qQE (by rfl) (fun K hK=>?_)
   refine qKI 37 (.tmp 33) (.tmp 31) rfl g 37 (W8 L) rfl rfl _ _ SD.out.1 Z.out (by rw [qJQ HS.out HK.out,qQw,LL.out];decide) (qZg _) (fun w7 hr7 hg7 _=>?_)
   rw[SrcC_put_blk HS.out HK.out _ LL.out]at hr7
   have R7:=Lh hr7
   have E7:=Lh (qQd hg7 (by have:=GE.out;simp;omega) SD.out.2)
   have GR:=Lh (World.grownBy.trans GR.out hg7)
   clear hr7 hg7
   refine hK.out _ _ (trivial) ?_
   clear hK K
   refine qQG ?_
   have Z3:=Lh (show(Tryz.prog.info? 83).map (·.size)=some 3 by kernel_rfl)
   have S3:=Lh (show 34+(#[.int .i64 (u:Int),.int .i64 (n:Int),.bool true]:Array Value).size≤(SrcC fv seed true u bk held L).size by rw [qJQ HS.out LL.out];simp)
   have O3:=Lh (show(#[.int .i64 (u:Int),.int .i64 (n:Int),.bool true]:Array Value).all (·.oneCell')=true by simp [Value.oneCell'])
   go_wp2_with (first
    | (refine qQa rfl (show(execOp _ _).run _ _=.ok (.value (.agg #[.int .i64 (u:Int),.int .i64 (n:Int),.bool true])) _ from qWz (.tmp 6) rfl E 0 rfl u n true (qQg E7.out 0 rfl) (qQg E7.out 1 rfl) (qQg E7.out 2 rfl)) ?_)
    | (refine qXr rfl 83 (.tmp 37) (.tmp 35) rfl g 34 #[.int .i64 (u:Int),.int .i64 (n:Int),.bool true] rfl rfl _ _ R7.out Z3.out S3.out O3.out ?_;intro w8 hr8 hg8 _))
   go_meet
   refine⟨rfl,?_,World.grownBy.trans GR.out hg8⟩
   rw[hr8,←LE.out]
   exact congrArg (fun z=>some (Obj.cells z 85 (0,0))) (SrcC_put_at HS.out u n true)
 case rest=>
 obtain⟨rfl,hrow,hgr⟩:=hcut
 have c:=qQg hrow (37+r) (SrcC_blk HS.out r (by rw [BN.out];exact R32.out))
 have ROW:=Lh hrow
 have HG:=Lh hgr
 clear hrow hgr
 rw[←Y.out]at c
 go_wp2_with fail
 go_ret
 refine⟨rfl,⟨A,_,seed,true,n,true,qV1 F n,by rw [ROW.out,FV.out],HF.out,RA.out.grown HG.out (fun k e a ea=>by cases e;exact(HA.out a ea).1),fun a ea=>⟨(HA.out a ea).1,kQb (HA.out a ea).2.1 HG.out.size,(HA.out a ea).2.2⟩,HS.out,BN.out,fun _=>H5.out,fun _=>⟨rfl,rfl⟩,fun _=>rfl⟩,HG.out⟩
theorem Src.u {g D:Nat} {F:List UInt8} {u:Nat} {b:Bool} {W:World} (h:Src g D F u b W):W.cell? ⟨g,34,none⟩=some (.int .i64 (u:Int)):=by
 obtain⟨A,c,seed,begun,bk,held,blk,h1,h2,h3,h4,hs,_⟩:=h.has
 exact qQg h1 34 (SrcC_u hs)
theorem Src.free {g D:Nat} {F:List UInt8} {u:Nat} {b:Bool} {W:World} (h:Src g D F u b W) (i:Nat):W.frozen? ⟨g,i,none⟩=false:=by
 obtain⟨A,c,seed,begun,bk,held,blk,h1,_⟩:=h.has
 exact qQz h1 i
theorem Src.told {g D:Nat} {F:List UInt8} {u:Nat} {b:Bool} {W:World} (h:Src g D F u b W) (u2:Nat):Src g D F u2 b (W.setCell ⟨g,34,none⟩ (.int .i64 (u2:Int))):=by
 obtain⟨A,c,seed,begun,bk,held,blk,h1,h2,h3,h4,hs,h5⟩:=h.has
 have hw:W.grownBy (W.setCell ⟨g,34,none⟩ (.int .i64 (u2:Int))) (some g):=qQF (World.grownBy.refl _ _) _ _
 exact⟨A,c,seed,begun,bk,held,blk,by rw [heap_setCell_same _ _ _ _ _ _ h1,SrcC_set_u hs],h2,h3.grown hw (fun k e a ea=>by cases e;exact(h4 a ea).1),fun a e=>⟨(h4 a e).1,kQb (h4 a e).2.1 hw.size,(h4 a e).2.2⟩,hs,h5⟩
theorem next_any (g D:Nat) (F:List UInt8) (u:Nat) (w:World) (h:Src g D F u true w) (hb:F.length≤100000) (hu:u≤900000) :
  Calls Tryz.prog 93 #[.pointer (some ⟨g,0,none⟩)] w fun e w'=>e=.returned (.int .u8 ((qJ8 F u).toNat:Int))∧Src g D F (u+1) true w'∧w.grownBy w' (some g):=by
 have H:=Lh h
 obtain⟨A,c,seed,begun,bk,held,blk,h1,h2,h3,_⟩:=h.has
 obtain⟨n,hn⟩:∃n,n=F.length:=⟨_,rfl⟩
 rw[←hn]at h1 h2 hb
 have NE:=Lh hn.symm
 have RA:=Lh h3
 have HB:=Lh hb
 have HU:=Lh hu
 have ub:(u:Int)≤900000:=by omega
 have nb:(n:Int)≤100000:=by omega
 have c0:=qQg h1 0 SrcC_f
 have c34:=h.u
 obtain⟨y,hy⟩:∃y,y=qJ8 F u:=⟨_,rfl⟩
 rw[←hy]
 have Y:=Lh hy
 clear h h1 h2 h3 hn hb hu hy
 go_enter Tryz.func93,Tryz.ntmps93
 go_upto_if 16 with fail
 go_cut [4] (fun v wx=>v=.int .u8 (y.toNat:Int)∧Src g D F u true wx∧w.grownBy wx (some g))
 case first=>
  by_cases hlt:u<n
  ·have hD:decide ((u:Int)<(n:Int))=true:=by simp;omega
   have jb:(u:Int)<(n:Int):=by omega
   obtain⟨b,o,rfl,hc⟩:=RA.out u (by rw [NE.out];exact hlt)
   rw[show F.getD u 0=y by rw [Y.out,qJ8,if_pos (by rw [NE.out];exact hlt)]]at hc
   go_wp2_with fail
   go_meet
   exact⟨rfl,H.out,World.grownBy.refl _ _⟩
  ·have hD:decide ((u:Int)<(n:Int))=false:=by simp;omega
   obtain⟨i,hi⟩:∃i,u=n+i:=⟨u-n,by omega⟩
   have e1:(u:Int)-(n:Int)=(i:Int):=by omega
   have IE:=Lh hi
   clear hi
   go_wp2_with fail
   refine(behind_any g D F u w H.out (by rw [NE.out];exact HB.out) (by have:=HU.out;omega) i (by have:=HU.out;have:=IE.out;omega)).mono ?_
   rw[show(qV1 F (i/32)).getD (i % 32) 0=y by rw [Y.out,qJ8,if_neg (by rw [NE.out];omega),qV1,NE.out,show u-n=i by have:=IE.out;omega]]
   rintro e w1 ⟨rfl,hs,hg⟩
   have H1:=Lh hs
   have G1:=Lh hg
   clear hs hg
   go_wp2_with fail
   go_meet
   exact⟨rfl,H1.out,G1.out⟩
 case rest=>
 obtain⟨rfl,hs,hg⟩:=hcut
 have c34:=hs.u
 have f34:=hs.free 34
 have H1:=Lh hs
 have G1:=Lh hg
 clear hs hg
 go_wp2_with fail
 go_ret
 refine⟨rfl,?_,World.grownBy.trans G1.out (qQF (World.grownBy.refl _ _) _ _)⟩
 exact H1.out.told (u+1)
def qQR (F:List UInt8) (u:Nat) (k:Nat):List UInt8:=(List.range k).map fun i=>qJ8 F (u+i)
theorem qQy (F:List UInt8) (u k:Nat):(qQR F u k).length=k:=by simp [qQR]
theorem qJV (F:List UInt8) (u k:Nat):qQR F u (k+1)=qQR F u k++[qJ8 F (u+k)]:=by simp [qQR,List.range_succ]
theorem qWR {w w3 w4:World} {g:Nat} {r:Option Nat} (h:w.grownBy w3 (some g)) (h':w3.grownBy w4 r) (hr:∀k,r=some k→w.heap.size≤k):w.grownBy w4 (some g):=
 ⟨h'.os.trans h.os,h'.tape.trans h.tape,h'.output.trans h.output,kQk h.size h'.size,fun k hk hne=>(h'.block k (kQb hk h.size) (fun e=>by have:=hr k e.symm;omega)).trans (h.block k hk hne)⟩
def qYi (m:Int):Nat:=(min (max m 0) 65536).toNat
theorem qY4 (g D:Nat) (F:List UInt8) (u:Nat) (b:Bool) (w:World) (h:Src g D F u b w) (hD:D<w.heap.size) (hb:F.length≤100000) (m:Int) (hu:u+qYi m≤900000) :
  Calls Tryz.prog 70 #[.pointer (some ⟨g,0,none⟩),.int .i64 m] w fun e w'=>∃v,e=.returned v∧OwnB w' w.heap.size v (qQR F u (qYi m))∧Src g D F (u+qYi m) true w'∧w.grownBy w' (some g):=by
 have TB:=Lh (show qXA Tryz.prog from⟨Tryz.underlying22,by kernel_rfl⟩)
 obtain⟨N,hN⟩:∃N,N=qYi m:=⟨_,rfl⟩
 rw[←hN]at hu ⊢
 have N6:=Lh (show N≤65536 by rw [hN];unfold qYi;omega)
 obtain⟨p,hp⟩:∃p:Int,p=max m 0:=⟨_,rfl⟩
 have e1:(if m<(0:Int)then(0:Int)else m)=p:=by rw [hp];split<;>omega
 have e2:(if (65536:Int)<p then(65536:Int)else p)=(N:Int):=by rw [hN,hp];unfold qYi;split<;>omega
 clear hp
 have H:=Lh h
 have GL:=Lh (And.intro h.lt hD)
 have HB:=Lh hb
 have HU:=Lh hu
 have nb:(N:Int)≤65536:=by have:=N6.out;omega
 clear h hD hb hu hN
 go_enter Tryz.func70,Tryz.ntmps70
 go_wp2_with fail
 refine(qYs g D F u b w H.out HB.out).mono ?_
 rintro e w1 ⟨rfl,hs,hg⟩
 have H:=Lh hs
 have G:=Lh hg
 clear hs hg
 go_wp2_with fail
 clear e1 e2
 go_loopw [5,13] (fun v i wr=>∃j:Nat,j≤N∧i=.int .i64 (j:Int)∧OwnB wr w.heap.size v (qQR F u j)∧Src g D F (u+j) true wr∧w.grownBy wr (some g)) (fun _ i _=>N-(intOf i).toNat)
 case atStart=>exact⟨0,by omega,rfl,OwnB.nil _ _,H.out,G.out⟩
 case round=>
  obtain⟨j,hj,rfl,ho,hs,hg⟩:=hrel
  have J:=Lh hj
  have O:=Lh ho
  have H:=Lh hs
  have G:=Lh hg
  clear ho hs hg
  by_cases hlt:j<N
  ·have hDj:decide ((j:Int)<(N:Int))=true:=by simp;omega
   go_wp2_with fail
   refine(next_any g D F (u+j) wr H.out HB.out (by have:=HU.out;omega)).mono ?_
   obtain⟨y,hy⟩:∃y,y=qJ8 F (u+j):=⟨_,rfl⟩
   rw[←hy]
   have TE:=Lh (show qQR F u (j+1)=qQR F u j++[y] by rw [qJV,hy])
   clear hy
   rintro e w2 ⟨rfl,hs,hg⟩
   have OL:=Lh (fun k (e:u5.ownBlock=some k)=>O.out.lt k e)
   have O:=Lh (O.out.grown hg (by
    rcases hq:u5.ownBlock with _|k
    ·exact .inl rfl
    ·exact .inr (fun e=>by injection e with e;have:=(OL.out k hq).1;have:=GL.out.1;omega)))
   have G:=Lh (World.grownBy.trans G.out hg)
   have H:=Lh hs
   clear hs hg
   have LJ:=Lh (show(qQR F u j).length=j from qQy _ _ _)
   go_wp2_with (refine qX1 rfl TB.out (.tmp 15) (.tmp 18) rfl w.heap.size u5 (qQR F u j) [y] (some ⟨w2.heap.size,0,none⟩) 1 1 rfl rfl rfl (O.out.alloc _) (RdB.one (y:=y) (qQg (fr:=(0,0)) (qQk _ _ _ rfl) 0 rfl)) ?s1 ?s2 ?_)
   case s1=>have:=G.out.size;simp;omega
   case s2=>have:=LJ.out;have:=N6.out;omega
   intro v1 w3 ho hg _
   have OL:=Lh (fun k (e:u5.ownBlock=some k)=>O.out.lt k e)
   have H:=Lh ((H.out.keep (qQh w2 _)).far hg (fun k e=>by have:=(OL.out k e).1;have:=GL.out;omega))
   have G:=Lh (qWR (World.grownBy.trans G.out (qQJ (qQh w2 _)).mono_none) hg (fun k e=>(OL.out k e).1))
   have O:=Lh (show OwnB w3 w.heap.size v1 (qQR F u (j+1)) by rw [TE.out];exact ho)
   clear ho hg
   go_wp2_with fail
   go_roundw
   case rel=>exact⟨j+1,by omega,by go_num,O.out,H.out,G.out⟩
   case measure=>simp [intOf];omega
  ·have hDj:decide ((j:Int)<(N:Int))=false:=by simp;omega
   obtain rfl:j=N:=by have:=J.out;omega
   go_wp2_with fail
   go_ret
   exact⟨_,rfl,O.out,H.out,G.out⟩
theorem run_newsrc {o:Oper} {a:Act} (x:Operand) (ho:o.op=.build 85 #[(0,x)]) (A:Option Addr) (n c:Nat) (h:a.eval x=.slice A n c) (W:World) :
  (execOp a.eval o).run Tryz.prog W=.ok (.value (.agg (SrcC (.slice A n c) (kQc 32 0) false 0 0 false (kQc 32 0)))) W:=by
 have h2:∀(A:Option Addr) (n c:Nat) (W:World),(Instr.build 85 #[(0,Value.slice A n c)]).run Tryz.prog W=.ok (.agg (SrcC (.slice A n c) (kQc 32 0) false 0 0 false (kQc 32 0))) W:=by
  intro A n c W
  kernel_rfl
 unfold execOp
 simp only [ho,kQs,kQw,List.map_nil,h,Sem.run_bind,h2,Result.andThen_ok,Sem.run_pure]
theorem new_src {W:World} {A:Option Addr} {F:List UInt8} {c:Nat} (hc:F.length≤c) (hR:RdB W A F) (hA:∀a,A=some a→a.block<W.heap.size) :
  ∃D,Src W.heap.size D F 0 false (W.alloc (.cells (SrcC (.slice A F.length c) (kQc 32 0) false 0 0 false (kQc 32 0)) 85))∧D<W.heap.size+1∧(∀a,A=some a→D=a.block)∧(A=none→D=W.heap.size):=by
 have hb:=qQh W (.cells (SrcC (.slice A F.length c) (kQc 32 0) false 0 0 false (kQc 32 0)) 85)
 rcases A with _|a
 ·exact⟨W.heap.size,⟨none,c,kQc 32 0,false,0,false,kQc 32 0,qQk _ _ _ rfl,hc,hR.keep hb,fun a e=>(by cases e),by simp,by simp,fun e=>(by cases e),fun e=>(by cases e),fun e=>(by cases e)⟩,by omega,fun a e=>(by cases e),fun _=>rfl⟩
 ·have ha:=hA a rfl
  exact⟨a.block,⟨some a,c,kQc 32 0,false,0,false,kQc 32 0,qQk _ _ _ rfl,hc,hR.keep hb,fun a' e=>(by cases e;exact⟨by omega,by rw [qQD];omega,rfl⟩),by simp,by simp,fun e=>(by cases e),fun e=>(by cases e),fun e=>(by cases e)⟩,by omega,fun a' e=>(by cases e;rfl),fun e=>(by cases e)⟩
theorem dnew_any (w:World) (A:Option Addr) (n c:Nat) (vs:List Value) (ls:List (List UInt8)) (hn:vs.length=n) (hR:RdV w A vs) (hall:All2 (SlB w) vs ls) (hfl:ls.flatten.length≤100000) (hnb:n≤1000000) :
  Calls Tryz.prog 6 #[.slice A n c] w fun e w'=>∃g D,e=.returned (.pointer (some ⟨g,0,none⟩))∧w.heap.size≤g∧D<w'.heap.size∧w.heap.size≤D∧Src g D ls.flatten 0 true w'∧Below w.heap.size w w':=by
 obtain⟨F,hF⟩:∃F,F=ls.flatten:=⟨_,rfl⟩
 have HF:=Lh (show F.length≤100000 by rw [hF];exact hfl)
 have P:=Lh (by have P:=concat_any w A n c vs ls hn hR hall (by omega) hnb;rw [←hF]at P;exact P)
 rw[←hF]
 clear hF hn hR hall hfl hnb
 go_enter Tryz.func6,Tryz.ntmps6
 go_wp2_with fail
 refine P.out.mono ?_
 rintro e w1 ⟨v,rfl,ho,hb⟩
 obtain⟨Av,cv,rfl,hrv,hlv,_,hav⟩:=ho.read
 have NS:=Lh (new_src hlv hrv (fun a e=>(hav a e).2))
 have AV:=Lh hav
 have B:=Lh hb
 obtain⟨m,hm⟩:∃m,m=F.length:=⟨_,rfl⟩
 rw[←hm]at NS ⊢
 clear ho hb hrv hlv hav hm P
 obtain⟨C,hC⟩:∃C,C=SrcC (.slice Av m cv) (kQc 32 0) false 0 0 false (kQc 32 0):=⟨_,rfl⟩
 rw[←hC]at NS
 have CE:=Lh hC
 clear hC
 go_wp2_with (refine qQa rfl (show(execOp _ _).run _ _=.ok (.value (.agg C)) _ by rw [CE.out];exact run_newsrc (.tmp 5) rfl Av m cv rfl _) ?_)
 obtain⟨D,hs,hd1,hd2,hd3⟩:=NS.out
 refine(qYs w1.heap.size D F 0 false _ hs HF.out).mono ?_
 rintro e w2 ⟨rfl,hs2,hg⟩
 have S2:=Lh hs2
 have G2:=Lh hg
 have D1:=Lh hd1
 have D2:=Lh hd2
 have D3:=Lh hd3
 clear hs hs2 hg hd1 hd2 hd3
 go_wp2_with fail
 go_ret
 have hz:=B.out.size
 refine⟨_,D,rfl,hz,?_,?_,S2.out,?_⟩
 ·have:=G2.out.size;rw [qQD]at this;have:=D1.out;omega
 ·rcases Av with _|a
  ·have:=D3.out rfl;omega
  ·have:=D2.out a rfl;have:=(AV.out a rfl).1;omega
 ·exact(B.out.alloc hz _).trans (qQi G2.out (by rw [qQD];omega) (by rintro k ⟨⟩;exact hz))
theorem qKR {w:World} {b o:Nat} {l:List UInt8} (h:RdB w (some ⟨b,o,none⟩) l):w.rangeAt b o (B8 l):=by
 intro j v hj
 obtain⟨b',o',e,hc⟩:=h.toV j v hj
 cases e
 exact hc
theorem dkey_any (g D:Nat) (F:List UInt8) (u:Nat) (b:Bool) (w:World) (h:Src g D F u b w) (hD:D<w.heap.size) (hb:F.length≤100000) (hu:u+32≤900000) :
  Calls Tryz.prog 50 #[.pointer (some ⟨g,0,none⟩)] w fun e w'=>e=.returned (.agg (W8 (qQR F u 32)))∧Src g D F (u+32) true w'∧w.grownBy w' (some g):=by
 have H:=Lh h
 have HD:=Lh hD
 have HB:=Lh hb
 have HU:=Lh hu
 have Z32:=Lh qJn
 have HL:=Lh h.lt
 obtain⟨X,hX⟩:∃X,X=qQR F u 32:=⟨_,rfl⟩
 have XL:=Lh (show X.length=32 by rw [hX,qQy])
 rw[←hX]
 have XE:=Lh hX
 clear h hD hb hu hX
 go_enter Tryz.func50,Tryz.ntmps50
 go_upto_region 1 with fail
 rw[←Z32.out]
 generalize hw1:World.alloc w _=w1
 have S:=Lh (show Src g D F u b w1∧w1.heap[w.heap.size]?=some (.cells (W8 (kQc 32 0)) 38 (0,0))∧w1.heap.size=w.heap.size+1∧w.grownBy w1 none by
  rw[←hw1]
  exact⟨H.out.keep (qQh _ _),qQk _ _ _ rfl,qQD _ _,qQJ (qQh _ _)⟩)
 clear hw1 H
 go_wp2_with fail
 refine(qY4 g D F u b w1 S.out.1 (by have:=S.out.2.2.1;have:=HD.out;omega) HB.out 32 (by show u+32≤900000;exact HU.out)).mono ?_
 rw[show qYi 32=32 from rfl]
 rintro e w2 ⟨v,rfl,ho,hs,hg⟩
 rw[←XE.out]at ho
 obtain⟨A6,c6,rfl,hr,_,_,hav⟩:=ho.read
 obtain⟨q,o,rfl,_⟩:=hr 0 (by rw [XL.out];omega)
 have RG:=Lh (qKR hr)
 rw[XL.out]
 have ZX:=Lh (show(Tryz.prog.info? 38).map (·.size)=some (B8 X).length by rw [qQt,XL.out];kernel_rfl)
 have ZX2:=Lh (show(Tryz.prog.info? 38).map (·.size)=some (W8 X).size by rw [qQw,XL.out];kernel_rfl)
 have S2:=Lh hs
 have G2:=Lh hg
 clear ho hs hg hr hav
 have R0:=Lh (show w2.heap[w.heap.size]?=some (.cells (W8 (kQc 32 0)) 38 (0,0))from qQd G2.out (fun e=>by injection e with e;have:=HL.out;omega) S.out.2.1)
 go_wp2_with (first
  | (refine qQa rfl (qWK 38 (.tmp 7) rfl 32 5 Tryz.underlying38 (some ⟨q,o,none⟩) 32 c6 rfl (kQh _) _) ?_)
  | (refine wpList_load_mid rfl 38 (.tmp 8) rfl q o rfl (B8 X) _ RG.out Tryz.underlying38 rfl ZX.out ?_)
  | (refine qQf rfl rfl 38 (.tmp 2) (.tmp 9) rfl w.heap.size (W8 X) rfl rfl 38 _ R0.out ZX2.out (by rw [qQw,qQw,XL.out];simp) (qZg _) ?_;intro w8 hz8 hg8 _))
 refine bodyPost_ret (results_cell_row rfl _ _ w.heap.size 38 (W8 X) (0,0) _ rfl hz8 Tryz.underlying38 rfl ZX2.out) rfl ⟨rfl,?_,?_⟩
 ·exact S2.out.far hg8 (by rintro k ⟨⟩;have:=HL.out;have:=HD.out;omega)
 ·exact qWR (World.grownBy.trans S.out.2.2.2.mono_none G2.out) hg8 (by rintro k ⟨⟩;exact kQh _)
structure SrcW (w:World) (g D:Nat) (F:List UInt8) (u:Nat) (W:World):Prop where
 bel:Below w.heap.size w W
 hg:w.heap.size≤g
 hD:w.heap.size≤D
 ltD:D<W.heap.size
 src:Src g D F u true W
theorem SrcW.ltg {w:World} {g D:Nat} {F:List UInt8} {u:Nat} {W:World} (h:SrcW w g D F u W):g<W.heap.size:=h.src.lt
theorem takeN_nat (n:Nat) (h:n≤65536):qYi (n:Int)=n:=by unfold qYi;omega
theorem tellS_add (F:List UInt8) (u a b:Nat):qQR F u (a+b)=qQR F u a++qQR F (u+a) b:=by
 induction b with
 | zero=>simp [qQR]
 | succ b ih=>rw [←Nat.add_assoc,qJV,qJV,ih,List.append_assoc,Nat.add_assoc]
end Go.Proofs.YtlocplkjokoknaaGreat
namespace Go.Proofs.YtlocplkjokoknaaGreat
open Go.RowKit
inductive Road where
 | done:Road
 | q:Nat→Road→Road
 | t:Nat→Road→Road
 | two:Nat→Road→Nat→Road→Road
 | three:Nat→Road→Nat→Road→Nat→Road→Road
section
variable {P:Program} {ops:Array Oper} {Q:Exit→Act→World→Prop} {S:World→Prop}
def qWD (ops:Array Oper):Road→Array Bool→Bool
 | .done,L=>(Region.ready .any ops L).isEmpty
 | .q i T,L=>(ops[i]?).isSome&&Region.free .any ops L i&&(Region.ready .any ops L).contains i&&qWD ops T (L.setIfInBounds i true)
 | .t i T,L=>(ops[i]?).isSome&&(match Region.ready .any ops L with | [j]=>Nat.beq j i|_=>false)&&qWD ops T (L.setIfInBounds i true)
 | .two i T j U,L=>(ops[i]?).isSome&&(ops[j]?).isSome&&(match Region.ready .any ops L with | [a,b]=>Nat.beq a i&&Nat.beq b j|_=>false)&&qWD ops T (L.setIfInBounds i true)&&qWD ops U (L.setIfInBounds j true)
 | .three i T j U k V,L=>(ops[i]?).isSome&&(ops[j]?).isSome&&(ops[k]?).isSome&&(match Region.ready .any ops L with | [a,b,c]=>Nat.beq a i&&Nat.beq b j&&Nat.beq c k|_=>false)&&qWD ops T (L.setIfInBounds i true)&&qWD ops U (L.setIfInBounds j true)&&qWD ops V (L.setIfInBounds k true)
def qXT:Road→Nat
 | .done=>0
 | .q _ T=>qXT T+1
 | .t _ T=>qXT T+1
 | .two _ T _ U=>max (qXT T) (qXT U)+1
 | .three _ T _ U _ V=>max (qXT T) (max (qXT U) (qXT V))+1
def qYk (P:Program) (ops:Array Oper) (Q:Exit→Act→World→Prop) (S:World→Prop) (K:Act→World→Prop) (i:Nat) (a:Act) (w:World):Prop:=
 ∃o,ops[i]?=some o∧if Region.wanted o (yielded ops a.tmps)=true then o.wp P a w (fun a' w'=>S w'∧K a' w') Q else S w∧K (a.put o.dst undef) w
def road (P:Program) (ops:Array Oper) (Q:Exit→Act→World→Prop):(World→Prop)→Road→Act→World→Prop
 | _,.done,a,w=>Q .normal a w
 | S,.q i T,a,w=>∃S':World→Prop,(∀w,S' w→S w)∧S' w∧∃o,ops[i]?=some o∧∃v,YieldsIf P ops S' o v a∧road P ops Q S' T (a.put o.dst v) w
 | S,.t i T,a,w=>∃S':World→Prop,(∀w,S' w→S w)∧qYk P ops Q S' (road P ops Q S' T) i a w
 | S,.two i T j U,a,w=>∃S':World→Prop,(∀w,S' w→S w)∧qYk P ops Q S' (road P ops Q S' T) i a w∧qYk P ops Q S' (road P ops Q S' U) j a w
 | S,.three i T j U k V,a,w=>∃S':World→Prop,(∀w,S' w→S w)∧qYk P ops Q S' (road P ops Q S' T) i a w∧qYk P ops Q S' (road P ops Q S' U) j a w∧qYk P ops Q S' (road P ops Q S' V) k a w
theorem qZq {S:World→Prop} {K K':Act→World→Prop} {i:Nat} {a:Act} {w:World} (h:qYk P ops Q S K i a w) (hK:∀a w,K a w→K' a w):wpOp P ops Q i (fun a' w'=>S w'∧K' a' w') a w:=by
 obtain⟨o,ho,h⟩:=h
 unfold wpOp
 simp only [ho]
 split
 ·rename_i hw
  rw[if_pos hw]at h
  exact .inl (Oper.wp_mono (fun a' w' hh=>⟨hh.1,hK _ _ hh.2⟩) h)
 ·rename_i hw
  rw[if_neg hw]at h
  exact⟨h.1,hK _ _ h.2⟩
theorem road_sound (hQ:∀c a d v w,Q (.panic c) (Act.put a d v) w→Q (.panic c) a w) (hs:Region.noSelect ops=true):∀(T:Road) (S:World→Prop) (fuel:Nat) (L:Array Bool) (a:Act) (w:World),qXT T≤fuel→qWD ops T L=true→
  road P ops Q S T a w→wpAnyH P .any ops Q S fuel L a w:=by
 intro T
 induction T with
 | done=>
  intro S fuel L a w _ hB h
  simp only [qWD,List.isEmpty_iff]at hB
  exact wpAnyH_done hB h fuel
 | q i T ih=>
  intro S fuel L a w hf hB h
  simp only [qWD,Bool.and_eq_true]at hB
  obtain⟨⟨⟨hi,hfr⟩,hr⟩,hB'⟩:=hB
  simp only [qXT]at hf
  obtain⟨fuel,rfl⟩:∃m,fuel=m+1:=⟨fuel-1,by omega⟩
  obtain⟨S',hSS,hS,o,ho,v,hy,h'⟩:=h
  exact qQ0 hSS _ _ _ _ (wpAnyH_take ho hs hfr hr (fun c a w hh=>hQ c a _ _ w hh) hy hS (ih S' fuel _ _ w (by omega) hB' h'))
 | t i T ih=>
  intro S fuel L a w hf hB h
  simp only [qWD,Bool.and_eq_true]at hB
  obtain⟨⟨hi,hr0⟩,hB'⟩:=hB
  have hr:Region.ready .any ops L=[i]:=by
   split at hr0
   ·rename_i j hj
    rw[hj,kQr hr0]
   ·cases hr0
  simp only [qXT]at hf
  obtain⟨fuel,rfl⟩:∃m,fuel=m+1:=⟨fuel-1,by omega⟩
  obtain⟨S',hSS,h⟩:=h
  refine qQ0 hSS _ _ _ _ (wpAnyH_all hr (by simp) ?_)
  intro j hj
  obtain rfl:j=i:=by simpa using hj
  exact qZq h (fun a w h=>ih S' fuel _ a w (by omega) hB' h)
 | two i T j U ihT ihU=>
  intro S fuel L a w hf hB h
  simp only [qWD,Bool.and_eq_true]at hB
  obtain⟨⟨⟨_,hr0⟩,hT⟩,hU⟩:=hB
  have hr:Region.ready .any ops L=[i,j]:=by
   split at hr0
   ·rename_i a b hj
    simp only [Bool.and_eq_true]at hr0
    rw[hj,kQr hr0.1,kQr hr0.2]
   ·cases hr0
  simp only [qXT]at hf
  obtain⟨fuel,rfl⟩:∃m,fuel=m+1:=⟨fuel-1,by omega⟩
  obtain⟨S',hSS,h1,h2⟩:=h
  refine qQ0 hSS _ _ _ _ (wpAnyH_all hr (by simp) ?_)
  intro k hk
  simp only [List.mem_cons,List.not_mem_nil,or_false]at hk
  rcases hk with rfl|rfl
  ·exact qZq h1 (fun a w h=>ihT S' fuel _ a w (by omega) hT h)
  ·exact qZq h2 (fun a w h=>ihU S' fuel _ a w (by omega) hU h)
 | three i T j U k V ihT ihU ihV=>
  intro S fuel L a w hf hB h
  simp only [qWD,Bool.and_eq_true]at hB
  obtain⟨⟨⟨⟨_,hr0⟩,hT⟩,hU⟩,hV⟩:=hB
  have hr:Region.ready .any ops L=[i,j,k]:=by
   split at hr0
   ·rename_i a b c hj
    simp only [Bool.and_eq_true]at hr0
    rw[hj,kQr hr0.1.1,kQr hr0.1.2,kQr hr0.2]
   ·cases hr0
  simp only [qXT]at hf
  obtain⟨fuel,rfl⟩:∃m,fuel=m+1:=⟨fuel-1,by omega⟩
  obtain⟨S',hSS,h1,h2,h3⟩:=h
  refine qQ0 hSS _ _ _ _ (wpAnyH_all hr (by simp) ?_)
  intro m hm
  simp only [List.mem_cons,List.not_mem_nil,or_false]at hm
  rcases hm with rfl|rfl|rfl
  ·exact qZq h1 (fun a w h=>ihT S' fuel _ a w (by omega) hT h)
  ·exact qZq h2 (fun a w h=>ihU S' fuel _ a w (by omega) hU h)
  ·exact qZq h3 (fun a w h=>ihV S' fuel _ a w (by omega) hV h)
theorem qZ5 {id:Nat} {l:List Oper} {a:Act} {w:World} (S:World→Prop) (T:Road) (hm:P.follows .mixedOrders=true)
  (hB:(qWD l.toArray T (Array.replicate l.toArray.size false)&&Region.noSelect l.toArray&&Nat.ble (qXT T) l.toArray.size)=true)
  (hQ:∀c a d v w,Q (.panic c) (Act.put a d v) w→Q (.panic c) a w)
  (h:road P l.toArray Q S T a w.drew):(Code.region id l.toArray true).wp P Q a w:=by
 simp only [Bool.and_eq_true]at hB
 exact wp_region_held hm (road_sound hQ hB.1.2 T S _ _ a w.drew (Nat.le_of_ble_eq_true hB.2) hB.1.1 h)
theorem qQn {i:Nat} {T:Road} {o:Oper} {a:Act} {w:World} {v:Value} (ho:ops.toList[i]?=some o) (hw:Region.wanted o (yielded ops a.tmps)=true) (hS:S w) (hy:∀w,S w→(execOp a.eval o).run P w=.ok (.value v) w) (h:road P ops Q S T (a.put o.dst v) w):road P ops Q S (.q i T) a w:=⟨S,fun _ h=>h,hS,o,by simpa using ho,v,.inl ⟨hw,hy⟩,h⟩
theorem qJY (S':World→Prop) {T:Road} {a:Act} {w:World} (hSS:∀w,S' w→S w) (h:road P ops Q S' T a w):road P ops Q S T a w:=by
 cases T with
 | done=>exact h
 | q i T=>obtain⟨T,h1,h2⟩:=h;exact⟨T,fun w h=>hSS w (h1 w h),h2⟩
 | t i T=>obtain⟨T,h1,h2⟩:=h;exact⟨T,fun w h=>hSS w (h1 w h),h2⟩
 | two i T j U=>obtain⟨T,h1,h2⟩:=h;exact⟨T,fun w h=>hSS w (h1 w h),h2⟩
 | three i T j U k V=>obtain⟨T,h1,h2⟩:=h;exact⟨T,fun w h=>hSS w (h1 w h),h2⟩
theorem stepR_t {K':Act→World→Prop} {i:Nat} {o:Oper} {a:Act} {w:World} (ho:ops.toList[i]?=some o) (hw:Region.wanted o (yielded ops a.tmps)=true)
  (h:∀K:Act→World→Prop,Hid (∀a w,S w→K' a w→K a w)→o.wp P a w K Q):qYk P ops Q S K' i a w:=
 ⟨o,by simpa using ho,by rw [if_pos hw];exact h _ (fun a w h1 h2=>⟨h1,h2⟩)⟩
theorem qQx {i:Nat} {T:Road} {o:Oper} {a:Act} {w:World} (ho:ops.toList[i]?=some o) (hw:Region.wanted o (yielded ops a.tmps)=true)
  (h:∀K:Act→World→Prop,Hid (∀a w,S w→road P ops Q S T a w→K a w)→o.wp P a w K Q):road P ops Q S (.t i T) a w:=⟨S,fun _ h=>h,stepR_t ho hw h⟩
theorem qZh {i j:Nat} {T U:Road} {a:Act} {w:World} (h1:road P ops Q S (.t i T) a w) (h2:road P ops Q S (.t j U) a w):road P ops Q S (.two i T j U) a w:=by
 obtain⟨S1,k1,o1,e1,g1⟩:=h1
 obtain⟨S2,k2,o2,e2,g2⟩:=h2
 have key:∀(S':World→Prop) (hk:∀w,S' w→S w) (T:Road) (o:Oper),(if Region.wanted o (yielded ops a.tmps)=true then o.wp P a w (fun a' w'=>S' w'∧road P ops Q S' T a' w') Q else S' w∧road P ops Q S' T (a.put o.dst undef) w)→
   (if Region.wanted o (yielded ops a.tmps)=true then o.wp P a w (fun a' w'=>S w'∧road P ops Q S T a' w') Q else S w∧road P ops Q S T (a.put o.dst undef) w):=by
  intro S' hk T o h
  split
  ·rename_i hw
   rw[if_pos hw]at h
   exact Oper.wp_mono (fun a' w' hh=>⟨hk _ hh.1,qJY S' hk hh.2⟩) h
  ·rename_i hw
   rw[if_neg hw]at h
   exact⟨hk _ h.1,qJY S' hk h.2⟩
 exact⟨S,fun _ h=>h,⟨o1,e1,key S1 k1 T o1 g1⟩,⟨o2,e2,key S2 k2 U o2 g2⟩⟩
theorem qYu {i j k:Nat} {T U V:Road} {a:Act} {w:World} (h1:road P ops Q S (.t i T) a w) (h2:road P ops Q S (.t j U) a w) (h3:road P ops Q S (.t k V) a w):road P ops Q S (.three i T j U k V) a w:=by
 have key:∀{i:Nat} {T:Road},road P ops Q S (.t i T) a w→qYk P ops Q S (road P ops Q S T) i a w:=by
  intro i T h
  obtain⟨S',hk,o,e,h⟩:=h
  refine⟨o,e,?_⟩
  split
  ·rename_i hw
   rw[if_pos hw]at h
   exact Oper.wp_mono (fun a' w' hh=>⟨hk _ hh.1,qJY S' hk hh.2⟩) h
  ·rename_i hw
   rw[if_neg hw]at h
   exact⟨hk _ h.1,qJY S' hk h.2⟩
 exact⟨S,fun _ h=>h,key h1,key h2,key h3⟩
theorem qQ8 {a:Act} {w:World} (h:Q .normal a w):road P ops Q S .done a w:=h
end
end Go.Proofs.YtlocplkjokoknaaGreat
namespace Go.Proofs.YtlocplkjokoknaaGreat
open Go.RowKit
attribute [local go_sem ↓] Go.wp_at_zero Go.wp_at_succ
structure BSt where
 mode:Nat
 F:List UInt8
 u:Nat
 m:List (List UInt8×Ent)
 n:Nat
structure BoxB (w:World) (g S D b lo:Nat) (s:BSt) (W:World):Prop where
 bel:Below w.heap.size w W
 hg:w.heap.size≤g
 hS:w.heap.size≤S
 hD:w.heap.size≤D
 hb:w.heap.size≤b
 row:W.heap[g]?=some (.cells #[.int .i64 (s.mode:Int),.pointer (some ⟨S,0,none⟩),.map (some b),.int .i64 (s.n:Int)] 80 (0,0))
 src:Src S D s.F s.u true W
 ltD:D<W.heap.size
 map:MapB lo b s.m W
 gS:g≠S
 gD:g≠D
 gb:g≠b
 Sb:S≠b
 Db:D≠b
 lg:g<lo
 lS:S<lo
 few:s.n≤1000000
theorem BoxB.keep {w W W':World} {g S D b lo:Nat} {s:BSt} (h:BoxB w g S D b lo s W) (hb:Below W.heap.size W W'):BoxB w g S D b lo s W':=
 ⟨h.bel.trans (hb.mono h.bel.size),h.hg,h.hS,h.hD,h.hb,qQb hb (qQe h.row) h.row,h.src.keep hb,kQb h.ltD hb.size,h.map.keep hb,h.gS,h.gD,h.gb,h.Sb,h.Db,h.lg,h.lS,h.few⟩
theorem BoxB.step {w W W':World} {g S D b lo:Nat} {s:BSt} {u2:Nat} (h:BoxB w g S D b lo s W) (hs:Src S D s.F u2 true W') (hg:W.grownBy W' (some S)):BoxB w g S D b lo { s with u:=u2 } W':=
 ⟨h.bel.trans (qQi hg h.bel.size (by rintro k ⟨⟩;exact h.hS)),h.hg,h.hS,h.hD,h.hb,qQd hg (by intro e;injection e with e;exact h.gS e) h.row,hs,kQb h.ltD hg.size,h.map.far hg (by rintro k ⟨⟩;exact⟨h.lS,h.Sb⟩),h.gS,h.gD,h.gb,h.Sb,h.Db,h.lg,h.lS,h.few⟩
theorem qWi (w0:World) (g S D b lo:Nat) (s:BSt) (w:World) (h:BoxB w0 g S D b lo s w) :
  Calls Tryz.prog 49 #[.pointer (some ⟨g,0,none⟩)] w fun e w'=>e=.returned (.bool false)∧w'=w:=by
 have c2:=qQg h.row 2 rfl
 clear h
 have qm:∀(w:World) (r:Option Nat),(binOp .eql 78 (.map r) (.map none)).run Tryz.prog w=.ok (.bool r.isNone) w:=fun w r=>Go.run_eql_map_nil w _ _ _ r Tryz.underlying78
 go_enter Tryz.func49,Tryz.ntmps49
 go_wp2_with fail
 go_ret
 exact⟨rfl,rfl⟩
end Go.Proofs.YtlocplkjokoknaaGreat
namespace Go.Proofs.YtlocplkjokoknaaGreat
open Go.RowKit
theorem qQN {P:Program} {o:Oper} {a:Act} {Q:Exit→Act→World→Prop} {W:World} {K:Act→World→Prop} (ty:TypeId) (x y:Operand) (ho:o.op=.store ty x y) (g:Nat) (cells:Array Value) (hx:a.eval x=.pointer (some ⟨g,0,none⟩)) (hy:a.eval y=.agg cells)
  (cur:Array Value) (t:TypeId) (hg:W.heap[g]?=some (.cells cur t (0,0))) (hi:(P.info? ty).map (·.size)=some cells.size) (hl:cur.size=cells.size) (h1:cells.all (·.oneCell')=true)
  (h:∀w',w'.heap[g]?=some (.cells cells t (0,0))→W.grownBy w' (some g)→w'.heap.size=W.heap.size→K (a.put o.dst undef) w'):o.wp P a W K Q:=by
 refine qKI ty x y ho g 0 cells hx hy cur t hg hi (by omega) h1 (fun w' hz=>?_)
 refine h w' ?_
 rw[hz,Nat.zero_add,List.take_zero,List.nil_append,kQt (by simp;omega),List.append_nil]
section
variable {P:Program} {ops:Array Oper} {Q:Exit→Act→World→Prop} {S:World→Prop} {s:Nat}
def Yet (s:Nat) (S:World→Prop) (L:Array Bool) (w:World):Prop:=L.getD s true=true∨S w
def qVi (P:Program) (ops:Array Oper) (Q:Exit→Act→World→Prop) (S:World→Prop) (s:Nat):Nat→Array Bool→Act→World→Prop
 | 0,L,a,w=>Region.ready .any ops L=[]∧Q .normal a w
 | n+1,L,a,w=>(Region.ready .any ops L=[]→Q .normal a w)∧∀i∈Region.ready .any ops L,wpOp P ops Q i (fun a' w'=>Yet s S (L.setIfInBounds i true) w'∧qVi P ops Q S s n (L.setIfInBounds i true) a' w') a w
theorem qWV:∀(n:Nat) (L:Array Bool) (a:Act) (w:World),qVi P ops Q S s n L a w→wpAny P .any ops Q n L a w
 | 0,_,_,_,h=>h
 | n+1,_,_,_,h=>⟨h.1,fun i hi=>wpOp_mono (fun _ _ k=>qWV n _ _ _ k.2) (h.2 i hi)⟩
theorem qZG {S':World→Prop} (hSS:∀w,S' w→S w):∀(n:Nat) (L:Array Bool) (a:Act) (w:World),qVi P ops Q S' s n L a w→qVi P ops Q S s n L a w
 | 0,_,_,_,h=>h
 | n+1,_,_,_,h=>⟨h.1,fun i hi=>wpOp_mono (fun _ _ k=>⟨k.1.imp id (hSS _),qZG hSS n _ _ _ k.2⟩) (h.2 i hi)⟩
theorem qWd {L:Array Bool} {i:Nat} (hi:i∈Region.ready .any ops L) {e:Edge} (he:e.on=i) (h:Region.binds .any e=true→L.getD e.on false=true) (hb:Region.binds .any e=true):False:=by
 have h0:=(mem_ready.1 hi).1
 have h1:=h hb
 rw[he]at h1
 by_cases hs:i<L.size
 ·simp [Array.getD,hs]at h0 h1
  rw[h0]at h1
  cases h1
 ·simp [Array.getD,hs]at h1
theorem qKC {i:Nat} {oi os:Oper} {v:Value} (hi:ops[i]?=some oi) (hos:ops[s]?=some os) (hwait:∃e∈os.after,Region.binds .any e=true∧e.on=i) (hsel:∀(j:Nat) (o:Oper) cs b,ops[j]?=some o→o.op≠.select cs b)
  (hQ:∀c a w,Q (.panic c) (a.put oi.dst v) w→Q (.panic c) a w):∀(n:Nat) (L:Array Bool) (a:Act) (w:World),L.getD s true=false→i≠s→
   (∀j oj,ops[j]?=some oj→j≠i→L.getD j true=false→(∀e∈oj.after,Region.binds .any e=true→e.on≠i)→oi.apart ops oj=true)→
   i∈Region.ready .any ops L→YieldsIf P ops S oi v a→S w→qVi P ops Q S s n (L.setIfInBounds i true) (a.put oi.dst v) w→qVi P ops Q S s (n+1) L a w:=by
 intro n
 induction n with
 | zero=>
  intro L a w hsL his hap hr hy hS H
  refine⟨(fun e=>by rw [e]at hr;cases hr),fun j hj=>?_⟩
  rcases Nat.decEq j i with hne|rfl
  ·have hm:=ready_mono hj hne
   rw[H.1]at hm
   cases hm
  ·exact hy.wpOp hi hS ⟨.inr hS,H⟩
 | succ n ih=>
  intro L a w hsL his hap hr hy hS H
  refine⟨(fun e=>by rw [e]at hr;cases hr),fun j hj=>?_⟩
  rcases Nat.decEq j i with hne|rfl
  ·obtain⟨hjL,oj,hoj,hedges⟩:=mem_ready.1 hj
   have hjs:j≠s:=by
    rintro rfl
    rw[hos]at hoj
    cases hoj
    obtain⟨e,he,hb,hon⟩:=hwait
    exact qWd hr hon (hedges e he) hb
   have hfree:∀e∈oj.after,Region.binds .any e=true→e.on≠i:=fun e he hb hon=>qWd hr hon (hedges e he) hb
   have K:=wpOp_putIf hoj (hap j oj hoj hne hjL hfree) (fun cs b=>hsel i oi cs b hi) (fun cs b=>hsel j oj cs b hoj) hQ hy (H.2 j (ready_mono hj hne))
   refine wpOp_mono (fun a' w' hk=>?_) K
   obtain⟨hy',hyet,hrest⟩:=hk
   have hsj:(L.setIfInBounds j true).getD s true=false:=by rw [getD_set_ne true hjs];exact hsL
   have hS':S w':=by
    rcases hyet with h1|h1
    ·rw [getD_set_ne true hjs,getD_set_ne true his]at h1
     rw[hsL]at h1
     cases h1
    ·exact h1
   refine⟨.inr hS',ih (L.setIfInBounds j true) a' w' hsj his (fun k ok hk hki hkL hkf=>?_) (ready_mono hr (Ne.symm hne)) hy' hS' ?_⟩
   ·refine hap k ok hk hki ?_ hkf
    rcases Nat.decEq j k with h2|rfl
    ·rwa [getD_set_ne true h2]at hkL
    ·exact hjL
   ·rw [Array.setIfInBounds_comm _ _ hne]
    exact hrest
  ·exact hy.wpOp hi hS ⟨.inr hS,H⟩
def tillB (ops:Array Oper) (s:Nat):List (Bool×Nat)→Array Bool→Bool
 | [],L=>(match Region.ready .any ops L with | [j]=>Nat.beq j s|_=>false)&&(Region.ready .any ops (L.setIfInBounds s true)).isEmpty&&(match ops[s]? with|some o=>o.guard.isNone|none=>false)
 | (true,i)::T,L=>(ops[i]?).isSome&&Region.free .any ops L i&&(Region.ready .any ops L).contains i&&!(L.getD s true)&&!(Nat.beq i s)&&(match ops[s]? with|some o=>o.after.toList.any (fun e=>Region.binds .any e&&Nat.beq e.on i)|none=>false)&&tillB ops s T (L.setIfInBounds i true)
 | (false,i)::T,L=>(ops[i]?).isSome&&(match Region.ready .any ops L with | [j]=>Nat.beq j i|_=>false)&&tillB ops s T (L.setIfInBounds i true)
def till (P:Program) (ops:Array Oper) (Q:Exit→Act→World→Prop) (os:Oper):(World→Prop)→List (Bool×Oper)→Act→World→Prop
 | _,[],a,w=>os.wp P a w (fun a' w'=>Q .normal a' w') Q
 | S,(true,o)::r,a,w=>∃S':World→Prop,(∀w,S' w→S w)∧S' w∧∃v,YieldsIf P ops S' o v a∧till P ops Q os S' r (a.put o.dst v) w
 | S,(false,o)::r,a,w=>∃S':World→Prop,(∀w,S' w→S w)∧if Region.wanted o (yielded ops a.tmps)=true then o.wp P a w (fun a' w'=>S' w'∧till P ops Q os S' r a' w') Q else S' w∧till P ops Q os S' r (a.put o.dst undef) w
theorem qVG {os:Oper} (hos:ops[s]?=some os) (hQ:∀c a d v w,Q (.panic c) (Act.put a d v) w→Q (.panic c) a w) (hs:Region.noSelect ops=true):∀(T:List (Bool×Nat)) (S:World→Prop) (n:Nat) (L:Array Bool) (a:Act) (w:World),T.length+1≤n→tillB ops s T L=true→
  till P ops Q os S (T.filterMap fun i=>(ops[i.2]?).map fun o=>(i.1,o)) a w→qVi P ops Q S s n L a w
 | [],S,n,L,a,w,hf,hB,h=>by
  simp only [tillB,Bool.and_eq_true]at hB
  obtain⟨⟨hr0,hend⟩,hg⟩:=hB
  have hr:Region.ready .any ops L=[s]:=by
   split at hr0
   ·rename_i j hj
    rw[hj,kQr hr0]
   ·cases hr0
  rw[hos]at hg
  obtain⟨n,rfl⟩:∃m,n=m+1:=⟨n-1,by simp at hf;omega⟩
  have hend':Region.ready .any ops (L.setIfInBounds s true)=[]:=by simpa using hend
  refine⟨(fun e=>by rw [hr]at e;cases e),fun j hj=>?_⟩
  rw[hr]at hj
  obtain rfl:j=s:=by simpa using hj
  unfold wpOp
  simp only [hos]
  have hgn:os.guard=none:=by simpa using hg
  rw[if_pos (by simp [Region.wanted,hgn])]
  refine .inl (Oper.wp_mono (fun a' w' hk=>⟨.inl ?_,?_⟩) h)
  ·by_cases hsz:j<L.size
   ·simp [hsz]
   ·simp [hsz]
  ·cases n with
   | zero=>exact⟨hend',hk⟩
   | succ n=>exact⟨fun _=>hk,(fun i hi=>by rw [hend']at hi;cases hi)⟩
 | (true,i)::T,S,n,L,a,w,hf,hB,h=>by
  simp only [tillB,Bool.and_eq_true]at hB
  obtain⟨⟨⟨⟨⟨⟨hi,hfr⟩,hr⟩,hsL⟩,hne⟩,hw⟩,hB'⟩:=hB
  obtain⟨o,ho⟩:=Option.isSome_iff_exists.1 hi
  obtain⟨n,rfl⟩:∃m,n=m+1:=⟨n-1,by simp at hf;omega⟩
  have e:((true,i)::T).filterMap (fun i=>(ops[i.2]?).map fun o=>(i.1,o))=(true,o)::T.filterMap fun i=>(ops[i.2]?).map fun o=>(i.1,o):=by simp [ho]
  rw[e]at h
  obtain⟨S',hSS,hS,v,hy,h'⟩:=h
  rw[hos]at hw
  obtain⟨ed,hed,hb⟩:=List.any_eq_true.1 hw
  simp only [Bool.and_eq_true]at hb
  exact qZG hSS _ _ _ _ (qKC ho hos ⟨ed,by simpa using hed,hb.1,kQr hb.2⟩ (Region.noSelect_spec hs) (fun c a w hh=>hQ c a _ _ w hh) n L a w (by simpa using hsL) (by intro e;subst e;simp at hne) (Region.free_spec ho hfr) (by simpa using hr) hy hS
   (qVG hos hQ hs T S' n _ _ w (by simp at hf ⊢;omega) hB' h'))
 | (false,i)::T,S,n,L,a,w,hf,hB,h=>by
  simp only [tillB,Bool.and_eq_true]at hB
  obtain⟨⟨hi,hr0⟩,hB'⟩:=hB
  have hr:Region.ready .any ops L=[i]:=by
   split at hr0
   ·rename_i j hj
    rw[hj,kQr hr0]
   ·cases hr0
  obtain⟨o,ho⟩:=Option.isSome_iff_exists.1 hi
  obtain⟨n,rfl⟩:∃m,n=m+1:=⟨n-1,by simp at hf;omega⟩
  have e:((false,i)::T).filterMap (fun i=>(ops[i.2]?).map fun o=>(i.1,o))=(false,o)::T.filterMap fun i=>(ops[i.2]?).map fun o=>(i.1,o):=by simp [ho]
  rw[e]at h
  obtain⟨S',hSS,h⟩:=h
  refine qZG hSS _ _ _ _ ⟨(fun e=>by rw [hr]at e;cases e),fun j hj=>?_⟩
  rw[hr]at hj
  obtain rfl:j=i:=by simpa using hj
  unfold wpOp
  simp only [ho]
  split
  ·rename_i hw
   rw[if_pos hw]at h
   exact .inl (Oper.wp_mono (fun a' w' hh=>⟨.inr hh.1,qVG hos hQ hs T S' n _ a' w' (by simp at hf;omega) hB' hh.2⟩) h)
  ·rename_i hw
   rw[if_neg hw]at h
   exact⟨.inr h.1,qVG hos hQ hs T S' n _ _ w (by simp at hf;omega) hB' h.2⟩
theorem qZI {id:Nat} {l:List Oper} {a:Act} {w:World} (S:World→Prop) (s:Nat) (T:List (Bool×Nat)) (os:Oper) (hm:P.follows .mixedOrders=true)
  (hB:(tillB l.toArray s T (Array.replicate l.toArray.size false)&&Region.noSelect l.toArray&&Nat.ble (T.length+1) l.toArray.size)=true)
  (hos:l.toArray[s]?=some os) (hQ:∀c a d v w,Q (.panic c) (Act.put a d v) w→Q (.panic c) a w)
  (h:till P l.toArray Q os S (T.filterMap fun i=>(l.toArray[i.2]?).map fun o=>(i.1,o)) a w.drew):(Code.region id l.toArray true).wp P Q a w:=by
 simp only [Bool.and_eq_true]at hB
 exact wp_region_any hm (qWV _ _ _ _ (qVG hos hQ hB.1.2 T S _ _ a w.drew (Nat.le_of_ble_eq_true hB.2) hB.1.1 h))
theorem qQB {os o:Oper} {rest:List (Bool×Oper)} {a:Act} {w:World} {v:Value} (hw:Region.wanted o (yielded ops a.tmps)=true) (hS:S w) (hy:∀w,S w→(execOp a.eval o).run P w=.ok (.value v) w) (h:till P ops Q os S rest (a.put o.dst v) w):till P ops Q os S ((true,o)::rest) a w:=⟨S,fun _ h=>h,hS,v,.inl ⟨hw,hy⟩,h⟩
theorem qKc {os o:Oper} {rest:List (Bool×Oper)} {a:Act} {w:World} (hw:Region.wanted o (yielded ops a.tmps)=true)
  (h:∀K:Act→World→Prop,Hid (∀a w,S w→till P ops Q os S rest a w→K a w)→o.wp P a w K Q):till P ops Q os S ((false,o)::rest) a w:=by
 refine⟨S,fun _ h=>h,?_⟩
 rw[if_pos hw]
 exact h _ (fun a w h1 h2=>⟨h1,h2⟩)
theorem qX8 {os:Oper} {a:Act} {w:World} (h:∀K:Act→World→Prop,Hid (∀a w,Q .normal a w→K a w)→os.wp P a w K Q):till P ops Q os S [] a w:=h _ (fun _ _ h=>h)
end
end Go.Proofs.YtlocplkjokoknaaGreat
namespace Go.Proofs.YtlocplkjokoknaaGreat
open Go.RowKit
attribute [local go_sem ↓] Go.wp_at_zero Go.wp_at_succ
theorem qKL {P:Program} {o:Oper} {a:Act} (T:TypeId) (x y:Operand) (ho:o.op=.lookup T x y true) {b:Nat} {k v:Value} (hx:a.eval x=.map (some b)) (hy:a.eval y=k) {W:World} (h:(Instr.lookup T (.map (some b)) k true).run P W=.ok v W):(execOp a.eval o).run P W=.ok (.value v) W:=by
 unfold execOp
 simp only [ho,hx,hy,Sem.run_bind,Sem.run_pure,h,Result.andThen_ok]
theorem qJS (k b:List UInt8) (A:Option Addr) (n c:Nat) (h:k.length=32):(EntL k b A n c).toArray.size=34:=by simp [EntL,qQt,h]
theorem EntL_one (k b:List UInt8) (A:Option Addr) (n c:Nat):(EntL k b A n c).toArray.all (·.oneCell')=true:=all_oneCell_toArray (by
 intro v hv
 simp only [EntL,List.mem_append,B8,List.mem_map,List.mem_cons,List.mem_nil_iff,or_false]at hv
 rcases hv with ⟨x,_,rfl⟩|rfl|rfl<;>rfl)
theorem info_ent:(Tryz.prog.info? 132).map (·.size)=some 34:=by kernel_rfl
def qZB (m:List (List UInt8×Ent)) (s:List UInt8):Bool:=m.any fun p=>decide (p.1=s)
theorem known_any (w0:World) (g S D b lo:Nat) (s:BSt) (w:World) (h:BoxB w0 g S D b lo s w) (A:Option Addr) (q c:Nat) (l:List UInt8) (hq:l.length=q) (hR:RdB w A l) (hl:q≤100000) :
  Calls Tryz.prog 90 #[.pointer (some ⟨g,0,none⟩),.slice A q c] w fun e w'=>e=.returned (.bool (qZB s.m l))∧Below w.heap.size w w':=by
 have H:=Lh h
 have HQ:=Lh hq
 have HR:=Lh hR
 have LK:∃k bs A' n c',∃β:Bool,qZB s.m l=β∧k.length=32∧∀W':World,W'.heap[b]?=w.heap[b]?→(Instr.lookup 78 (.map (some b)) (.string (strB l)) true).run Tryz.prog W'=.ok (.tuple #[EntV k bs A' n c',.bool β]) W':=by
  rcases qK3 h.map l (by omega)with ⟨h1,h2⟩|⟨j,e,A',c',hj,h2,_,h32,_,_⟩
  ·refine⟨_,_,_,_,_,false,?_,by simp,h2⟩
   simp only [qZB,List.any_eq_false,decide_eq_true_eq]
   exact h1
  ·refine⟨_,_,_,_,_,true,?_,h32,h2⟩
   simp only [qZB,List.any_eq_true,decide_eq_true_eq]
   exact⟨_,kQu hj,rfl⟩
 obtain⟨k,bs,A',n,c',β,hβ,h32,hlk⟩:=LK
 rw[hβ]
 have K32:=Lh h32
 have LKH:=Lh hlk
 have ML:=Lh h.map.lt
 clear h hq hR hl hβ h32 hlk
 go_enter Tryz.func90,Tryz.ntmps90
 go_wp2_with fail
 refine(qWi w0 g S D b lo s w H.out).mono ?_
 rintro e wd ⟨rfl,hw⟩
 rw[hw]
 clear hw wd
 go_upto_region 3 with fail
 have B:=Lh (show Below w.heap.size w w.drew from(Below.refl _ _).drew)
 refine qQu (fun W=>Below w.heap.size w W) [(true,0),(true,1),(true,2),(true,3),(true,4),(true,5),(true,6),(true,7),(true,8),(true,9),(false,10),(false,11),(true,12)] (by kernel_rfl) (by kernel_rfl) (fun _ _ d _ _ h=>by cases d<;>exact h) ?_
 simp only [kQl,kQm,kQd,kQg,kQe,kQo]
 refine qQc (by rfl) B.out (fun W hW=>by go_simp;rfl) ?_
 simp only [Act.put,pq1,pq2,pq3]
 refine qQc (by rfl) B.out (fun W hW=>by go_simp;rfl) ?_
 simp only [Act.put,pq1,pq2,pq3]
 refine qQc (by rfl) B.out (fun W hW=>by go_simp;rfl) ?_
 simp only [Act.put,pq1,pq2,pq3]
 refine qQc (by rfl) B.out (fun W hW=>qQq 78 (.tmp 12) rfl _ Tryz.underlying78 rfl rfl (qQg (qQb hW (qQe H.out.row) H.out.row) 2 rfl)) ?_
 simp only [Act.put,pq1,pq2,pq3]
 refine qQc (by rfl) B.out (fun W hW=>by go_simp;rfl) ?_
 simp only [Act.put,pq1,pq2,pq3]
 refine qQc (by rfl) B.out (fun W hW=>qZo 22 9 (.tmp 14) rfl Tryz.underlying22 Tryz.underlying5 Tryz.underlying9 (HR.out.keep hW) q c HQ.out rfl) ?_
 simp only [Act.put,pq1,pq2,pq3]
 refine qQc (by rfl) B.out (fun W hW=>qKL 78 (.tmp 13) (.tmp 15) rfl rfl rfl (LKH.out W (hW.block b ML.out))) ?_
 simp only [Act.put,pq1,pq2,pq3]
 refine qQc (by rfl) B.out (fun W hW=>by go_simp;rfl) ?_
 simp only [Act.put,pq1,pq2,pq3]
 refine qQc (by rfl) B.out (fun W hW=>by go_simp;rfl) ?_
 simp only [Act.put,pq1,pq2,pq3]
 refine qQc (by rfl) B.out (fun W hW=>by go_simp;rfl) ?_
 simp only [Act.put,pq1,pq2,pq3]
 refine qQE (by rfl) (fun K hK=>?_)
 go_simp
 generalize hw1:World.drew (World.alloc w _)=w1
 have R1:=Lh (show w1.heap[w.heap.size]?=some (.cells (EntL (kQc 32 0) [] none 0 0).toArray 132 (0,0)) by rw [←hw1];exact qQk w _ _ rfl)
 have B:=Lh (show Below w.heap.size w w1 by rw [←hw1];exact(qQh w _).trans (Below.refl _ _).drew)
 clear hw1
 refine hK.out _ _ B.out ?_
 clear hK K
 refine qQE (by rfl) (fun K hK=>?_)
 refine qQN 132 (.tmp 5) (.tmp 17) rfl w.heap.size (EntL k bs A' n c').toArray rfl rfl _ _ R1.out (by rw [qJS _ _ _ _ _ K32.out];exact info_ent) (by rw [qJS _ _ _ _ _ K32.out];rfl) (EntL_one _ _ _ _ _) ?_
 intro w2 _ hg _
 have B:=Lh (B.out.trans (qQi hg B.out.size (by rintro x ⟨⟩;exact kQh _)))
 clear hg
 refine hK.out _ _ B.out ?_
 clear hK K
 refine qQc (by rfl) B.out (fun W hW=>by go_simp;rfl) ?_
 simp only [Act.put,pq1,pq2,pq3]
 refine qQG ?_
 go_wp2_with fail
 go_ret
 exact⟨rfl,B.out⟩
theorem mapUpdate_wp {P:Program} {o:Oper} {a:Act} {Q:Exit→Act→World→Prop} {W W':World} {K:Act→World→Prop} (T:TypeId) (x y z:Operand) (ho:o.op=.mapUpdate T x y z) {b:Nat} {k v:Value} (hx:a.eval x=.map (some b)) (hy:a.eval y=k) (hz:a.eval z=v)
  (h:(Instr.mapUpdate T (.map (some b)) k v).run P W=.ok () W') (hk:K (a.put o.dst undef) W'):o.wp P a W K Q:=by
 unfold Oper.wp execOp
 simp only [ho,hx,hy,hz,Sem.run_bind,Sem.run_pure,h,Result.andThen_ok]
 exact hk
theorem qWS {w W W':World} {k:Nat} (h:Below w.heap.size w W) (hg:W.grownBy W' (some k)) (hk:w.heap.size≤k):Below w.heap.size w W':=
 h.trans (qQi hg h.size (by rintro q ⟨⟩;exact hk))
theorem keep_any (w0:World) (g S D b lo:Nat) (s:BSt) (w:World) (h:BoxB w0 g S D b lo s w) (A:Option Addr) (q c:Nat) (l:List UInt8) (hq:l.length=q) (hR:RdB w A l) (hl:q≤100000)
  (e:Ent) (A2:Option Addr) (n2 c2:Nat) (hn2:e.text.length=n2) (hR2:RdB w A2 e.text) (hk:e.key.length=32) (hc2:n2≤c2) (hA2:∀a,A2=some a→a.block<w.heap.size∧lo≤a.block∧OfB w a.block) (hm:s.m.length≤100000) (hn:s.n<1000000) :
  Calls Tryz.prog 91 #[.pointer (some ⟨g,0,none⟩),.slice A q c,.agg (EntL e.key e.beside A2 n2 c2).toArray] w fun en w'=>en=.returned (.tuple #[])∧
   ∃m',(((∀p∈s.m,p.1≠l)∧m'=s.m++[(l,e)])∨∃(j:Nat) (e0:Ent),s.m[j]?=some (l,e0)∧m'=s.m.set j (l,e))∧BoxB w0 g S D b lo { s with m:=m',n:=s.n+1 } w'∧
   ∃w1 w2,Below w.heap.size w w1∧w1.grownBy w2 (some b)∧w2.grownBy w' (some g):=by
 have H:=Lh h
 have HQ:=Lh hq
 have HR:=Lh hR
 have HL:=Lh hl
 have N2:=Lh hn2
 have R2:=Lh hR2
 have HK:=Lh hk
 have C2:=Lh hc2
 have HA:=Lh hA2
 have HM:=Lh hm
 have HN:=Lh hn
 have nb:(s.n:Int)<1000000:=by omega
 obtain⟨cs,hcs⟩:∃cs,cs=(EntL e.key e.beside A2 n2 c2).toArray:=⟨_,rfl⟩
 have CE:=Lh hcs
 rw[←hcs]
 have Z:=Lh (show(Tryz.prog.info? 132).map (·.size)=some cs.size by rw [hcs,qJS _ _ _ _ _ hk];exact info_ent)
 clear h hq hR hl hn2 hR2 hk hc2 hA2 hm hn hcs
 go_enter Tryz.func91,Tryz.ntmps91
 go_upto_region 1 with fail
 generalize hw1:World.alloc w _=w1
 have M1:=Lh (show w1.heap[w.heap.size]?=some (.cells cs 132 (0,0)) by rw [←hw1];exact qQk _ _ _ rfl)
 have B1:=Lh (show Below w.heap.size w w1 by rw [←hw1];exact qQh _ _)
 clear hw1
 have H1:=Lh (H.out.keep B1.out)
 have B:=Lh (show Below w1.heap.size w1 w1.drew from(Below.refl _ _).drew)
 refine qZI (fun W=>Below w1.heap.size w1 W) 7 [(true,0),(true,1),(true,2),(true,3),(true,4),(true,5),(true,6)] _ (by kernel_rfl) (by kernel_rfl) rfl (fun _ _ d _ _ h=>by cases d<;>exact h) ?_
 simp only [kQl,kQm,kQd,kQg,kQe,kQo]
 refine qQB (by rfl) B.out (fun W hW=>by go_simp;rfl) ?_
 simp only [Act.put,pq1,pq2,pq3]
 refine qQB (by rfl) B.out (fun W hW=>by go_simp;rfl) ?_
 simp only [Act.put,pq1,pq2,pq3]
 refine qQB (by rfl) B.out (fun W hW=>by go_simp;rfl) ?_
 simp only [Act.put,pq1,pq2,pq3]
 refine qQB (by rfl) B.out (fun W hW=>qQq 78 (.tmp 8) rfl _ Tryz.underlying78 rfl rfl (qQg (qQb hW (qQe H1.out.row) H1.out.row) 2 rfl)) ?_
 simp only [Act.put,pq1,pq2,pq3]
 refine qQB (by rfl) B.out (fun W hW=>by go_simp;rfl) ?_
 simp only [Act.put,pq1,pq2,pq3]
 refine qQB (by rfl) B.out (fun W hW=>qZo 22 9 (.tmp 10) rfl Tryz.underlying22 Tryz.underlying5 Tryz.underlying9 ((HR.out.keep B1.out).keep hW) q c HQ.out rfl) ?_
 simp only [Act.put,pq1,pq2,pq3]
 refine qQB (by rfl) B.out (fun W hW=>qQj 132 (.tmp 5) rfl w.heap.size rfl 132 cs (0,0) _ (qQb hW (qQe M1.out) M1.out) Tryz.underlying132 rfl Z.out) ?_
 simp only [Act.put,pq1,pq2,pq3]
 have H2:=Lh (H1.out.keep B.out)
 obtain⟨w3,hrun,hg3,hput⟩:=mapB_put H2.out.map l (by rw [HQ.out];exact HL.out) e A2 c2 HM.out ((R2.out.keep B1.out).keep B.out) HK.out (by rw [N2.out];exact C2.out) (fun a ea=>⟨kQb (HA.out a ea).1 (kQk B1.out.size B.out.size),(HA.out a ea).2.1,((HA.out a ea).2.2.same (B1.out.block _ (HA.out a ea).1)).same (B.out.block _ (kQb (HA.out a ea).1 B1.out.size))⟩)
 rw[N2.out]at hrun
 have G3:=Lh hg3
 have PUT:=Lh hput
 have RUN:=Lh (show(Instr.mapUpdate 78 (.map (some b)) (.string (strB l)) (.agg cs)).run Tryz.prog w1.drew=.ok () w3 by rw [CE.out];exact hrun)
 clear hrun hg3 hput
 refine qX8 (fun K hK=>?_)
 refine mapUpdate_wp 78 (.tmp 9) (.tmp 11) (.tmp 12) rfl rfl rfl rfl RUN.out ?_
 refine hK.out _ _ ?_
 clear hK K
 have W1:=Lh (B1.out.size)
 obtain⟨m',hm',hmap⟩:∃m',(((∀p∈s.m,p.1≠l)∧m'=s.m++[(l,e)])∨∃(j:Nat) (e0:Ent),s.m[j]?=some (l,e0)∧m'=s.m.set j (l,e))∧MapB lo b m' w3:=by
  rcases PUT.out with ⟨h1,h2⟩|⟨j,e0,h1,h2⟩
  ·exact⟨_,.inl ⟨h1,rfl⟩,h2⟩
  ·exact⟨_,.inr ⟨j,e0,h1,rfl⟩,h2⟩
 have MO:=Lh hm'
 have MB:=Lh hmap
 have RW3:=Lh (show w3.heap[g]?=_ from qQd G3.out (by intro e;injection e with e;exact H2.out.gb e) H2.out.row)
 have SR3:=Lh (H2.out.src.far G3.out (by rintro k ⟨⟩;exact⟨fun e=>H2.out.Sb e.symm,fun e=>H2.out.Db e.symm⟩))
 have c3:=qQg RW3.out 3 rfl
 have f3:=qQz RW3.out 3
 clear hm' hmap PUT RUN
 go_wp2_with fail
 rw[show((s.n:Int)+1)=((s.n+1:Nat):Int) by omega]
 have G4:w3.grownBy (w3.setCell ⟨g,3,none⟩ (.int .i64 ((s.n+1:Nat):Int))) (some g):=qQF (World.grownBy.refl _ _) _ _
 go_end0
 refine⟨rfl,m',MO.out,?_,w1.drew,w3,B1.out.trans (B.out.mono B1.out.size),G3.out,G4⟩
 have hB:Below w0.heap.size w0 w3:=qWS H2.out.bel G3.out H2.out.hb
 exact⟨qWS hB G4 H2.out.hg,H2.out.hg,H2.out.hS,H2.out.hD,H2.out.hb,
  by rw [heap_setCell_same _ _ _ _ _ _ RW3.out];rfl,
  SR3.out.far G4 (by rintro k ⟨⟩;exact⟨H2.out.gS,H2.out.gD⟩),
  kQb H2.out.ltD (kQk G3.out.size G4.size),
  MB.out.far G4 (by rintro k ⟨⟩;exact⟨H2.out.lg,H2.out.gb⟩),
  H2.out.gS,H2.out.gD,H2.out.gb,H2.out.Sb,H2.out.Db,H2.out.lg,H2.out.lS,by have:=HN.out;show s.n+1≤1000000;omega⟩
theorem bdraw_any (w0:World) (g S D b lo:Nat) (s:BSt) (w:World) (h:BoxB w0 g S D b lo s w) (n:Nat) (hn:n≤65536) (hu:s.u+n≤900000) (hF:s.F.length≤100000) :
  Calls Tryz.prog 89 #[.pointer (some ⟨g,0,none⟩),.int .i64 (n:Int)] w fun e w'=>∃v,e=.returned v∧OwnB w' w.heap.size v (qQR s.F s.u n)∧BoxB w0 g S D b lo { s with u:=s.u+n } w'∧w.grownBy w' (some S):=by
 have TB:=Lh (show qXA Tryz.prog from⟨Tryz.underlying22,by kernel_rfl⟩)
 have H:=Lh h
 have HN:=Lh hn
 have HU:=Lh hu
 have HF:=Lh hF
 have nb:(n:Int)≤65536:=by omega
 obtain⟨T,hT⟩:∃T,T=qQR s.F s.u n:=⟨_,rfl⟩
 have TE:=Lh hT
 have TL:=Lh (show T.length=n by rw [hT,qQy])
 rw[←hT]
 clear h hn hu hF hT
 go_enter Tryz.func89,Tryz.ntmps89
 go_wp2_with fail
 go_loopw [5] (fun v wr=>(v=.slice none 0 0∧wr=w)∨(0<n∧OwnB wr w.heap.size v T∧BoxB w0 g S D b lo { s with u:=s.u+n } wr∧w.grownBy wr (some S))) (fun v _=>n-lenOf v)
 case atStart=>exact .inl ⟨rfl,rfl⟩
 case round=>
  rcases hrel with ⟨rfl,hw⟩|⟨hn0,ho,hs,hg⟩
  ·rw [hw]
   clear hw wr
   rcases Nat.eq_zero_or_pos n with h0|h0
   ·have hD:decide ((0:Int)<(n:Int))=false:=by simp;omega
    have hD2:decide (0<n)=false:=by simp;omega
    have T0:=Lh (show T=[]from List.eq_nil_of_length_eq_zero (by rw [TL.out,h0]))
    have N0:=Lh h0
    clear h0
    go_wp2_with fail
    go_ret
    refine⟨_,rfl,by rw [T0.out];exact OwnB.nil _ _,?_,World.grownBy.refl _ _⟩
    have:=H.out
    rw[N0.out]
    exact this
   ·have hD:decide ((0:Int)<(n:Int))=true:=by simp;omega
    have hD2:decide (0<n)=true:=by simp;omega
    have N0:=Lh h0
    have c1:=qQg H.out.row 1 rfl
    clear h0
    go_wp2_with fail
    refine(qY4 S D s.F s.u true w H.out.src H.out.ltD HF.out (n:Int) (by rw [takeN_nat n HN.out];exact HU.out)).mono ?_
    rw[takeN_nat n HN.out,←TE.out]
    rintro e w1 ⟨v,rfl,ho,hs,hg⟩
    obtain⟨A',c',rfl,hr,_,_,_⟩:=ho.read
    rw[TL.out]
    have R:=Lh hr
    have SR:=Lh hs
    have G1:=Lh hg
    clear ho hr hs hg c1
    go_wp2_with (refine qX1 rfl TB.out (.tmp 10) (.tmp 19) rfl w.heap.size _ [] T A' n c' rfl rfl TL.out (OwnB.nil _ _) R.out G1.out.size (by have:=HN.out;simp;omega) ?_)
    intro v1 w2 ho hg _
    have G2:=Lh (qWR G1.out hg (by rintro k e;simp [Value.ownBlock]at e))
    have O:=Lh ho
    have BB:=Lh ((H.out.step SR.out G1.out).keep (qQi hg (kQh _) (by rintro k e;simp [Value.ownBlock]at e)))
    obtain⟨A2,c2,rfl,_,_,_,_⟩:=ho.read
    have O:=Lh (show OwnB w2 w.heap.size (.slice A2 n c2) T by have:=O.out;rwa [TL.out]at this)
    rw[TL.out]
    clear ho hg
    go_wp2_with fail
    go_roundw
    case rel=>exact .inr ⟨N0.out,O.out,BB.out,G2.out⟩
    case measure=>have:=N0.out;simp [lenOf];omega
  ·obtain⟨A2,c2,rfl,_,_,_,_⟩:=ho.read
   have O:=Lh ho
   have BB:=Lh hs
   have G2:=Lh hg
   rw[TL.out]at O ⊢
   have hD:decide ((n:Int)<(n:Int))=false:=by simp
   clear hn0 ho hs hg
   go_wp2_with fail
   go_ret
   exact⟨_,rfl,O.out,BB.out,G2.out⟩
def WhoL (k bs:List UInt8):List Value:=B8 k++[.string (strB bs)]
theorem qJP (k bs:List UInt8) (h:k.length=32):(WhoL k bs).toArray.size=33:=by simp [WhoL,qQt,h]
theorem qKu:(Tryz.prog.info? 130).map (·.size)=some 33:=by kernel_rfl
def qZf:Nat→BSt→Ent→BSt×Option (List UInt8)
 | 0,s,_=>(s,none)
 | t+1,s,e=>
  if qZB s.m (qQR s.F s.u (e.text.length+28))then qZf t { s with u:=s.u+(e.text.length+28) } e
  else({ s with u:=s.u+(e.text.length+28),m:=s.m++[(qQR s.F s.u (e.text.length+28),e)],n:=s.n+1 },some (qQR s.F s.u (e.text.length+28)))
theorem not_known {m:List (List UInt8×Ent)} {l:List UInt8} (h:qZB m l=false):∀p∈m,p.1≠l:=by
 simp only [qZB,List.any_eq_false,decide_eq_true_eq]at h
 exact h
theorem run_newent {o:Oper} {a:Act} (x y:Operand) (ho:o.op=.build 132 #[(0,x),(1,y)]) (k bs:List UInt8) (hk:k.length=32) (A:Option Addr) (n c:Nat) (hx:a.eval x=.agg (WhoL k bs).toArray) (hy:a.eval y=.slice A n c) (W:World) :
  (execOp a.eval o).run Tryz.prog W=.ok (.value (EntV k bs A n c)) W:=by
 match k,hk with
 | [k0,k1,k2,k3,k4,k5,k6,k7,k8,k9,k10,k11,k12,k13,k14,k15,k16,k17,k18,k19,k20,k21,k22,k23,k24,k25,k26,k27,k28,k29,k30,k31],_=>
  have h2:∀(s:Value) (A:Option Addr) (n c:Nat) (v0 v1 v2 v3 v4 v5 v6 v7 v8 v9 v10 v11 v12 v13 v14 v15 v16 v17 v18 v19 v20 v21 v22 v23 v24 v25 v26 v27 v28 v29 v30 v31:Value) (W:World),
    (Instr.build 132 #[(0,.agg #[v0,v1,v2,v3,v4,v5,v6,v7,v8,v9,v10,v11,v12,v13,v14,v15,v16,v17,v18,v19,v20,v21,v22,v23,v24,v25,v26,v27,v28,v29,v30,v31,s]),(1,Value.slice A n c)]).run Tryz.prog W=.ok (.agg #[v0,v1,v2,v3,v4,v5,v6,v7,v8,v9,v10,v11,v12,v13,v14,v15,v16,v17,v18,v19,v20,v21,v22,v23,v24,v25,v26,v27,v28,v29,v30,v31,s,.slice A n c]) W:=by
   intros
   kernel_rfl
  unfold execOp
  simp only [ho,kQs,kQw,List.map_nil,hx,hy,Sem.run_bind,Sem.run_pure]
  simp only [WhoL,B8,kQw,List.map_nil,List.cons_append,List.nil_append,h2,Result.andThen_ok]
  rfl
def BoxF (g S b:Nat) (w w':World):Prop:=w.heap.size≤w'.heap.size∧∀k,k<w.heap.size→k≠g→k≠S→k≠b→w'.heap[k]?=w.heap[k]?
theorem BoxF.refl (g S b:Nat) (w:World):BoxF g S b w w:=⟨kQh _,fun _ _ _ _ _=>rfl⟩
theorem BoxF.below {g S b:Nat} {w W W':World} (h:BoxF g S b w W) (hb:Below W.heap.size W W'):BoxF g S b w W':=
 ⟨kQk h.1 hb.size,fun k h1 h2 h3 h4=>(hb.block k (kQb h1 h.1)).trans (h.2 k h1 h2 h3 h4)⟩
theorem BoxF.grown {g S b:Nat} {w W W':World} {r:Option Nat} (h:BoxF g S b w W) (hg:W.grownBy W' r) (hr:∀k,r=some k→k=g∨k=S∨k=b∨w.heap.size≤k):BoxF g S b w W':=
 ⟨kQk h.1 hg.size,fun k h1 h2 h3 h4=>(hg.block k (kQb h1 h.1) (fun e=>by have:=hr k e.symm;omega)).trans (h.2 k h1 h2 h3 h4)⟩
theorem RdB.boxF {g S b:Nat} {w w':World} {A:Option Addr} {l:List UInt8} (h:RdB w A l) (hf:BoxF g S b w w') (hA:l≠[]→∀a,A=some a→a.block≠g∧a.block≠S∧a.block≠b):RdB w' A l:=by
 intro j hj
 have hne:l≠[]:=fun e=>by rw [e]at hj;exact absurd hj (by simp)
 obtain⟨k,o,e,hc⟩:=h j hj
 refine⟨k,o,e,?_⟩
 have h1:=hA hne _ e
 have h0:=h.lt hne _ e
 rw[←hc]
 have h2:=hf.2 k h0 h1.1 h1.2.1 h1.2.2
 simp only [World.cell?,h2]
def IdealP (w0:World) (g S D b lo:Nat) (w:World) (r:BSt×Option (List UInt8)) (e:Ending) (w':World):Prop:=
 ∃A m c,e=.returned (.tuple #[.slice A m c,.int .i64 (if r.2.isSome then 0 else 15)])∧RdB w' A (r.2.getD [])∧(r.2.getD []).length=m∧m≤c∧(∀a,A=some a→w.heap.size≤a.block∧a.block<w'.heap.size)∧BoxB w0 g S D b lo r.1 w'∧BoxF g S b w w'
theorem ideal_any (w0:World) (g S D b lo:Nat) (s:BSt) (w:World) (h:BoxB w0 g S D b lo s w) (e:Ent) (hk:e.key.length=32) (A:Option Addr) (q c:Nat) (hq:e.text.length=q) (hc:q≤c) (hR:RdB w A e.text) (hO:e.text≠[]→∀a,A=some a→a.block≠g∧a.block≠S∧a.block≠b)
  (hq2:q≤60000) (hu:s.u+8*(q+28)≤900000) (hF:s.F.length≤100000) (hm:s.m.length≤10000) (hn:s.n≤100000) (hlo:lo≤w.heap.size) :
  Calls Tryz.prog 68 #[.pointer (some ⟨g,0,none⟩),.agg (WhoL e.key e.beside).toArray,.slice A q c] w (IdealP w0 g S D b lo w (qZf 8 s e)):=by
 have H:=Lh h
 have HK:=Lh hk
 have HQ:=Lh hq
 have HC:=Lh hc
 have HR:=Lh hR
 have HO:=Lh hO
 have Q2:=Lh hq2
 have HU:=Lh hu
 have HF:=Lh hF
 have HM:=Lh hm
 have HN:=Lh hn
 have HL:=Lh hlo
 have qb:(q:Int)≤60000:=by omega
 obtain⟨cs,hcs⟩:∃cs,cs=(WhoL e.key e.beside).toArray:=⟨_,rfl⟩
 have CE:=Lh hcs
 rw[←hcs]
 have Z:=Lh (show(Tryz.prog.info? 130).map (·.size)=some cs.size by rw [hcs,qJP _ _ hk];exact qKu)
 obtain⟨X,hX⟩:∃X,X=qZf 8 s e:=⟨_,rfl⟩
 have XE:=Lh hX.symm
 rw[←hX]
 clear h hk hq hc hR hO hq2 hu hF hm hn hlo hcs hX
 go_enter Tryz.func68,Tryz.ntmps68
 go_upto_region 1 with fail
 generalize hw1:World.alloc w _=w1
 have M1:=Lh (show w1.heap[w.heap.size]?=some (.cells cs 130 (0,0)) by rw [←hw1];exact qQk _ _ _ rfl)
 have B1:=Lh (show Below w.heap.size w w1 by rw [←hw1];exact qQh _ _)
 have S1:=Lh (show w1.heap.size=w.heap.size+1 by rw [←hw1,qQD])
 clear hw1
 go_wp2_with fail
 go_loopw [9] (fun i wr=>∃(t:Nat) (u:Nat),t≤8∧i=.int .i64 (t:Int)∧qZf (8-t) { s with u:=u } e=X∧u=s.u+t*(q+28)∧BoxB w0 g S D b lo { s with u:=u } wr∧BoxF g S b w1 wr) (fun i _=>8-(intOf i).toNat)
 case atStart=>exact⟨0,s.u,by omega,rfl,XE.out,by omega,H.out.keep B1.out,BoxF.refl _ _ _ _⟩
 case round=>
  obtain⟨t,u,ht,rfl,hx,hu,hs,hf⟩:=hrel
  have T8:=Lh ht
  have XR:=Lh hx
  have UE:=Lh hu
  have SB:=Lh hs
  have FR:=Lh hf
  clear ht hx hu hs hf
  by_cases h8:t<8
  ·have hD:decide ((t:Int)<8)=true:=by simp;omega
   have T:=Lh h8
   have tb:(t:Int)≤7:=by omega
   clear h8
   have HUB:=Lh (show u+(q+28)≤900000∧u+(q+28)=s.u+(t+1)*(q+28) by
    have h1:(t+1)*(q+28)≤8*(q+28):=Nat.mul_le_mul_right _ (by have:=T.out;omega)
    have h2:=Nat.succ_mul t (q+28)
    have h3:=UE.out
    have h4:=HU.out
    rw[Nat.succ_eq_add_one]at h2
    omega)
   have LT:=Lh (show g<w.heap.size∧S<w.heap.size∧b<w.heap.size from⟨qQe H.out.row,H.out.src.lt,H.out.map.lt⟩)
   go_wp2_with fail
   rw[show((q:Int)+28)=((q+28:Nat):Int) by omega]
   refine(bdraw_any w0 g S D b lo { s with u:=u } wr SB.out (q+28) (by have:=Q2.out;omega) HUB.out.1 HF.out).mono ?_
   obtain⟨x,hx⟩:∃x,x=qQR s.F u (q+28):=⟨_,rfl⟩
   have XT:=Lh hx
   have XL:=Lh (show x.length=q+28 by rw [hx,qQy])
   have XS:=Lh (show X=if qZB s.m x then qZf (8-(t+1)) { s with u:=u+(q+28) } e else({ s with u:=u+(q+28),m:=s.m++[(x,e)],n:=s.n+1 },some x) by
    rw[←XR.out,show 8-t=(8-(t+1))+1 by have:=T.out;omega,qZf,hx,HQ.out])
   show ∀_ _,_→_
   simp only
   rw[←hx]
   rintro e2 w2 ⟨v,rfl,ho,hs,hg⟩
   obtain⟨Ax,cx,rfl,hrx,hcx,_,hbx⟩:=ho.read
   rw[XL.out]
   have RX:=Lh hrx
   have BX:=Lh hbx
   have CX:=Lh (show q+28≤cx by rw [←XL.out];exact hcx)
   have SB:=Lh (show BoxB w0 g S D b lo { s with u:=u+(q+28) } w2 from hs)
   have WR:=Lh (show w.heap.size≤wr.heap.size from kQk B1.out.size FR.out.1)
   have FR:=Lh (FR.out.grown hg (by rintro k ⟨⟩;exact .inr (.inl rfl)))
   clear ho hs hg hrx hcx hbx hx
   go_wp2_with fail
   refine(known_any w0 g S D b lo { s with u:=u+(q+28) } w2 SB.out Ax (q+28) cx x XL.out RX.out (by have:=Q2.out;omega)).mono ?_
   rintro e2 w3 ⟨rfl,hb⟩
   have RX:=Lh (RX.out.keep hb)
   have SB:=Lh (SB.out.keep hb)
   have FR:=Lh (FR.out.below hb)
   have BX:=Lh (show ∀a,Ax=some a→w.heap.size≤a.block∧a.block<w3.heap.size from fun a ea=>⟨kQk WR.out (BX.out a ea).1,kQb (BX.out a ea).2 hb.size⟩)
   clear hb
   obtain⟨β,hβ⟩:∃β,β=qZB s.m x:=⟨_,rfl⟩
   simp only
   rw[←hβ]
   rw[←hβ]at XS
   have BE:=Lh hβ
   clear hβ
   cases β with
   | true=>
    have XN:=Lh (show qZf (8-(t+1)) { s with u:=u+(q+28) } e=X by rw [XS.out];rfl)
    go_wp2_with fail
    go_roundw
    case rel=>exact⟨t+1,u+(q+28),by have:=T.out;omega,by go_num,XN.out,HUB.out.2,SB.out,FR.out⟩
    case measure=>have:=T.out;simp [intOf];omega
   | false=>
    have XN:=Lh (show X=({ s with u:=u+(q+28),m:=s.m++[(x,e)],n:=s.n+1 },some x) by rw [XS.out];rfl)
    go_upto_region 5 with fail
    have M3:=Lh (show w3.heap[w.heap.size]?=some (.cells cs 130 (0,0)) by
     rw[FR.out.2 w.heap.size (by have:=S1.out;omega) (by have:=LT.out.1;omega) (by have:=LT.out.2.1;omega) (by have:=LT.out.2.2;omega)]
     exact M1.out)
    have RT:=Lh (show RdB w3 A e.text from(HR.out.keep B1.out).boxF FR.out HO.out)
    have B:=Lh (show Below w3.heap.size w3 w3.drew from(Below.refl _ _).drew)
    have MD:=Lh (show w3.drew.heap[w.heap.size]?=some (.cells cs 130 (0,0))from M3.out)
    refine qQu (fun W=>W.heap[w.heap.size]?=some (.cells cs 130 (0,0))) [(true,0),(true,1),(true,2),(true,3),(false,4),(true,5),(false,6)] (by kernel_rfl) (by kernel_rfl) (fun _ _ d _ _ h=>by cases d<;>exact h) ?_
    simp only [kQl,kQm,kQd,kQg,kQe,kQo]
    refine qQc (by rfl) MD.out (fun W hW=>by go_simp;rfl) ?_
    simp only [Act.put,pq1,pq2,pq3]
    refine qQc (by rfl) MD.out (fun W hW=>by go_simp;rfl) ?_
    simp only [Act.put,pq1,pq2,pq3]
    refine qQc (by rfl) MD.out (fun W hW=>qQj 130 (.tmp 4) rfl w.heap.size rfl 130 cs (0,0) _ hW Tryz.underlying130 rfl Z.out) ?_
    simp only [Act.put,pq1,pq2,pq3]
    refine qQc (by rfl) MD.out (fun W hW=>by go_simp;rfl) ?_
    simp only [Act.put,pq1,pq2,pq3]
    refine qQE (by rfl) (fun K hK=>?_)
    go_simp
    refine(qVx w3.drew A q c e.text HQ.out (RT.out.keep B.out) (by have:=Q2.out;omega)).mono ?_
    rintro e2 w4 ⟨v,rfl,ho,hb⟩
    obtain⟨Ac,cc,rfl,hrc,hcc,_,hbc⟩:=ho.read
    rw[HQ.out]
    have RC:=Lh hrc
    have CC:=Lh (show q≤cc by rw [←HQ.out];exact hcc)
    have BC:=Lh (show ∀a,Ac=some a→a.block<w4.heap.size∧lo≤a.block∧OfB w4 a.block from fun a ea=>⟨(hbc a ea).2,by have:=(hbc a ea).1;have:=B.out.size;have:=HL.out;have:=S1.out;have:=FR.out.1;omega,ho.ofB a ea⟩)
    have B4:=Lh (B.out.trans (hb.mono B.out.size))
    have M4:=Lh (qQb B4.out (qQe M3.out) M3.out)
    clear ho hb hrc hcc hbc
    refine hK.out _ _ M4.out ?_
    clear hK K
    refine qQc (by rfl) M4.out (fun W hW=>run_newent (.tmp 22) (.tmp 24) rfl e.key e.beside HK.out Ac q cc (by rw [←CE.out];rfl) rfl W) ?_
    simp only [Act.put,pq1,pq2,pq3]
    have SB4:=Lh (SB.out.keep B4.out)
    have FR4:=Lh (FR.out.below B4.out)
    refine qQE (by rfl) (fun K hK=>?_)
    go_simp
    refine(keep_any w0 g S D b lo { s with u:=u+(q+28) } w4 SB4.out Ax (q+28) cx x XL.out (RX.out.keep B4.out) (by have:=Q2.out;omega) e Ac q cc HQ.out RC.out HK.out CC.out BC.out (kQk HM.out (by omega)) (Nat.lt_of_le_of_lt HN.out (by omega))).mono ?_
    rintro e2 w5 ⟨rfl,m',hm',hbx,w6,w7,hb6,hg7,hg5⟩
    have MN:=Lh (show m'=s.m++[(x,e)] by
     rcases hm' with ⟨_,h⟩|⟨j,e0,h,_⟩
     ·exact h
     ·exact absurd rfl (not_known BE.out.symm _ (kQu h)))
    have SB5:=Lh (show BoxB w0 g S D b lo { s with u:=u+(q+28),m:=s.m++[(x,e)],n:=s.n+1 } w5 by rw [←MN.out];exact hbx)
    have FR5:=Lh (((FR4.out.below hb6).grown hg7 (by rintro k ⟨⟩;exact .inr (.inr (.inl rfl)))).grown hg5 (by rintro k ⟨⟩;exact .inl rfl))
    have RX5:=Lh (show RdB w5 Ax x from((RX.out.keep B4.out).keep hb6).grown hg7 (fun k ek a ea=>by cases ek;have:=(BX.out a ea).1;have:=LT.out.2.2;omega) |>.grown hg5 (fun k ek a ea=>by cases ek;have:=(BX.out a ea).1;have:=LT.out.1;omega))
    have Z5:=Lh (show w3.heap.size≤w5.heap.size from kQk B4.out.size (kQk hb6.size (kQk hg7.size hg5.size)))
    have M5:=Lh (show w5.heap[w.heap.size]?=some (.cells cs 130 (0,0))from qQd hg5 (by intro ee;injection ee with ee;have:=LT.out.1;omega) (qQd hg7 (by intro ee;injection ee with ee;have:=LT.out.2.2;omega) (qQb hb6 (qQe M4.out) M4.out)))
    clear hm' hbx hb6 hg7 hg5
    refine hK.out _ _ M5.out ?_
    clear hK K
    refine qQG ?_
    go_wp2_with fail
    go_ret2
    rw[XN.out]
    exact⟨Ax,q+28,cx,rfl,RX5.out,XL.out,CX.out,fun a ea=>⟨(BX.out a ea).1,kQb (BX.out a ea).2 Z5.out⟩,SB5.out,⟨kQk B1.out.size FR5.out.1,fun k h1 h2 h3 h4=>(FR5.out.2 k (kQb h1 B1.out.size) h2 h3 h4).trans (B1.out.block k h1)⟩⟩
  ·have hD:decide ((t:Int)<8)=false:=by simp;omega
   have N:=Lh (show X=({ s with u:=u },none) by rw [←XR.out,show 8-t=0 by omega];rfl)
   clear h8
   go_wp2_with fail
   go_ret2
   rw[N.out]
   exact⟨none,0,0,rfl,RdB.nil _ _,rfl,kQh _,fun a e=>(by cases e),SB.out,⟨kQk B1.out.size FR.out.1,fun k h1 h2 h3 h4=>(FR.out.2 k (kQb h1 B1.out.size) h2 h3 h4).trans (B1.out.block k h1)⟩⟩
def NewP (w0:World) (S D:Nat) (F:List UInt8) (u k:Nat) (w:World) (e:Ending) (w':World):Prop:=
 ∃g b lo,e=.returned (.tuple #[.pointer (some ⟨g,0,none⟩),.int .i64 0])∧BoxB w0 g S D b lo ⟨k,F,u,[],0⟩ w'∧Below w.heap.size w w'∧lo≤w'.heap.size
theorem bnew_any (w0:World) (S D:Nat) (F:List UInt8) (u:Nat) (w:World) (h:SrcW w0 S D F u w) (k:Nat) (hk:k=0∨k=1) :
  Calls Tryz.prog 5 #[.int .i64 (k:Int),.pointer (some ⟨S,0,none⟩)] w (NewP w0 S D F u k w):=by
 have H:=Lh h
 have K:=Lh hk
 have hB:∀w1:World,w1=(w.alloc (.map #[] 0)).alloc (.cells #[.int .i64 (k:Int),.pointer (some ⟨S,0,none⟩),.map (some w.heap.size),.int .i64 0] 80)→BoxB w0 (w.heap.size+1) S D w.heap.size (w.heap.size+2) ⟨k,F,u,[],0⟩ w1∧Below w.heap.size w w1∧w.heap.size+2≤w1.heap.size:=by
  rintro w1 rfl
  have hb:Below w.heap.size w ((w.alloc (.map #[] 0)).alloc (.cells #[.int .i64 (k:Int),.pointer (some ⟨S,0,none⟩),.map (some w.heap.size),.int .i64 0] 80)):=(qQh _ _).trans ((qQh _ _).mono (by simp))
  have hS:=H.out.ltg
  have hD:=H.out.ltD
  have h0:=H.out.bel.size
  refine⟨⟨H.out.bel.trans (hb.mono h0),by omega,H.out.hg,H.out.hD,h0,qQk _ _ _ (by simp),H.out.src.keep hb,kQb hD hb.size,⟨⟨#[],0,qQM _ _ _ (by simp) (qQk _ _ _ rfl),Go.MapKept.stamped_empty 0,.nil⟩,fun p hp=>by simp at hp,by omega⟩,by omega,by omega,by omega,by omega,by omega,by omega,by omega,by show 0≤1000000;omega⟩,hb,by simp [qQD]⟩
 have BB:=Lh (hB _ rfl)
 clear h hk hB
 have hmk:∀W:World,(Instr.makeMap 78 none).run Tryz.prog W=.ok (.map (some W.heap.size)) (W.alloc (.map #[] 0)):=fun W=>run_makeMap _ W
 rcases K.out with hk|hk
 ·subst hk
  go_enter Tryz.func5,Tryz.ntmps5
  go_wp2_with fail
  go_ret2
  exact⟨_,_,_,rfl,BB.out.1,BB.out.2⟩
 ·subst hk
  go_enter Tryz.func5,Tryz.ntmps5
  go_wp2_with fail
  go_ret2
  exact⟨_,_,_,rfl,BB.out.1,BB.out.2⟩
end Go.Proofs.YtlocplkjokoknaaGreat
