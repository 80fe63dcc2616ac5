/- Part 7 of what the law LawRingMakes needs. No condition but those each theorem states. -/
import Derived.ChangeOld
import Derived.ChangeSlices
import Derived.Deep.Matrix
import Derived.Deep.MidRow
import Derived.Deep.SlicePairs
import Derived.OpenShut
import Derived.ProofKit
import Derived.SizedLaws
import Derived.Test.YtlocplkjokoknaaGreatPkLawRingMakesF
set_option linter.unusedVariables false
set_option linter.unusedSimpArgs false
set_option maxHeartbeats 32000000
set_option maxRecDepth 100000
open List renaming getD_eq_getElem?_getD → kQa, replicate → kQc, getElem?_toArray → kQd, getElem?_cons_succ → kQe, toList_toArray → kQf, getElem?_cons_zero → kQg, getElem?_eq_getElem → kQi, length_append → kQj, filterMap_cons → kQl, filterMap_nil → kQm, take_of_length_le → kQn, length_take → kQp, getElem?_append_right → kQq, map_toArray → kQs, drop_of_length_le → kQt, mem_of_getElem? → kQu, length_drop → kQv, map_cons → kQw
open Nat renaming lt_of_lt_of_le → kQb, le_refl → kQh, le_trans → kQk, eq_of_beq_eq_true → kQr
open Option renaming map_some → kQo
namespace Go.Proofs.YtlocplkjokoknaaGreat
open Go.RowKit
attribute [local go_sem ↓] Go.wp_at_zero Go.wp_at_succ
theorem run_newrbx {o:Oper} {a:Act} (x y:Operand) (ho:o.op=.build 32 #[(0,x),(1,y)]) (m:Nat) (F:List UInt8) (hx:a.eval x=.int .i64 (m:Int)) (hy:a.eval y=.string (strB F)) (W:World) :
  (execOp a.eval o).run Tryz.prog W=.ok (.value (.agg (RBC m F 0 none 0 0))) W:=by
 have h2:∀(z:Int) (s:ByteArray) (W:World),(Instr.build 32 #[(0,.int .i64 z),(1,.string s)]).run Tryz.prog W=.ok (.agg #[.int .i64 z,.string s,.int .i64 0,.slice none 0 0]) W:=by
  intro z s W
  kernel_rfl
 unfold execOp
 simp only [ho,kQs,kQw,List.map_nil,hx,hy,Sem.run_bind,h2,Result.andThen_ok,Sem.run_pure]
 rfl
theorem qKn {ops:Array Oper} {Q:Exit→Act→World→Prop} {a:Act} {wv:World} {o14 o15 o16 o17:Oper} (e14:ops.toList[14]?=some o14) (e15:ops.toList[15]?=some o15) (e16:ops.toList[16]?=some o16) (e17:ops.toList[17]?=some o17)
  (g14:o14.guard=none∧o14.dst=none∧o14.op=.store 32 (.tmp 9) (.tmp 72)) (g15:o15.guard=none∧o15.dst=none∧o15.op=.store 45 (.tmp 12) (.tmp 73)) (g16:o16.guard=none∧o16.dst=none∧o16.op=.store 47 (.tmp 13) (.tmp 74)) (g17:o17.guard=none∧o17.dst=some 14∧o17.op=.assign (.tmp 75))
  {M9 M12 M13:Nat} {hs cs rs ks:Array Value} (h9:a.eval (.tmp 9)=.pointer (some ⟨M9,0,none⟩)) (h12:a.eval (.tmp 12)=.pointer (some ⟨M12,0,none⟩)) (h13:a.eval (.tmp 13)=.pointer (some ⟨M13,0,none⟩)) (h72:a.eval (.tmp 72)=.agg hs) (h73:a.eval (.tmp 73)=.agg rs) (h74:a.eval (.tmp 74)=.agg ks)
  (R9:wv.heap[M9]?=some (.cells cs 32 (0,0))) (R12:wv.heap[M12]?=some (.cells RgZ 45 (0,0))) (R13:wv.heap[M13]?=some (.cells (RowQ kysE) 47 (0,0)))
  (i1:(Tryz.prog.info? 32).map (·.size)=some hs.size) (s1:cs.size=hs.size) (o1:hs.all (·.oneCell')=true) (i2:(Tryz.prog.info? 45).map (·.size)=some rs.size) (s2:RgZ.size=rs.size) (o2:rs.all (·.oneCell')=true)
  (i3:(Tryz.prog.info? 47).map (·.size)=some ks.size) (s3:(RowQ kysE).size=ks.size) (o3:ks.all (·.oneCell')=true) (n1:M9≠M12) (n2:M9≠M13) (n3:M12≠M13)
  (h:∀W1 W2 W3:World,wv.grownBy W1 (some M9)→W1.grownBy W2 (some M12)→W2.grownBy W3 (some M13)→W3.heap[M9]?=some (.cells hs 32 (0,0))→W3.heap[M12]?=some (.cells rs 45 (0,0))→W3.heap[M13]?=some (.cells ks 47 (0,0))→Q .normal (a.put (some 14) (a.eval (.tmp 75))) W3):qKH Tryz.prog ops Q [14,15,16,17] a wv:=by
 refine tail_t e14 g14.1 (fun K hK=>?_)
 refine qQN 32 (.tmp 9) (.tmp 72) g14.2.2 M9 hs h9 h72 _ _ R9 i1 s1 o1 ?_
 intro W1 z1 b1 _
 rw[g14.2.1]
 refine hK.out _ _ (tail_t e15 g15.1 (fun K hK=>?_))
 refine qQN 45 (.tmp 12) (.tmp 73) g15.2.2 M12 rs h12 h73 _ _ (qQd b1 (fun e=>n1 (Option.some.inj e).symm) R12) i2 s2 o2 ?_
 intro W2 z2 b2 _
 rw[g15.2.1]
 refine hK.out _ _ (tail_t e16 g16.1 (fun K hK=>?_))
 refine qQN 47 (.tmp 13) (.tmp 74) g16.2.2 M13 ks h13 h74 _ _ (qQd b2 (fun e=>n3 (Option.some.inj e).symm) (qQd b1 (fun e=>n2 (Option.some.inj e).symm) R13)) i3 s3 o3 ?_
 intro W3 z3 b3 _
 rw[g16.2.1]
 refine hK.out _ _ (tail_v e17 g17.1 (v:=a.eval (.tmp 75)) ?_ (tail_nil ?_))
 ·unfold execOp
  simp only [g17.2.2,Sem.run_pure]
  rfl
 ·rw [g17.2.1]
  exact h W1 W2 W3 b1 b2 b3 (qQd b3 (fun e=>n2 (Option.some.inj e)) (qQd b2 (fun e=>n1 (Option.some.inj e)) z1)) (qQd b3 (fun e=>n3 (Option.some.inj e)) z2) z3
structure S9 (w8 W:World) (A B:Option Addr) (l x:List Value):Prop where
 ra:RdV W A l
 rb:RdV W B x
 oa:∀a,A=some a→w8.heap.size≤a.block∧a.block<W.heap.size
 ob:∀a,B=some a→w8.heap.size≤a.block∧a.block<W.heap.size
theorem S9.keep {w8 W W':World} {A B:Option Addr} {l x:List Value} (h:S9 w8 W A B l x) (hb:Below W.heap.size W W'):S9 w8 W' A B l x:=
 ⟨h.ra.keep hb,h.rb.keep hb,fun a e=>⟨(h.oa a e).1,kQb (h.oa a e).2 hb.size⟩,fun a e=>⟨(h.ob a e).1,kQb (h.ob a e).2 hb.size⟩⟩
theorem S9.ne {w8 W:World} {A B:Option Addr} {l x:List Value} (h:S9 w8 W A B l x) {M:Nat} (hM:W.heap.size=M):(∀a,A=some a→a.block≠M)∧∀a,B=some a→a.block≠M:=
 ⟨fun a e=>by have:=(h.oa a e).2;omega,fun a e=>by have:=(h.ob a e).2;omega⟩
theorem RgOut.s9 {w8 W W':World} {r:RBx×Option (List (List UInt8)×List UInt8)×Int} {A:Option Addr} {n c:Nat} {B:Option Addr} {m k:Nat} (h:RgOut W none r A n c B m k W') (hw:w8.heap.size≤W.heap.size):S9 w8 W' A B (EC r.1.L) (SX (r.2.1.getD ([],[])).1):=
 ⟨h.rd,h.xs,fun a e=>(h.off a e).elim (fun h=>⟨kQk hw h.1,h.2⟩) (fun h=>by cases h),fun a e=>⟨kQk hw (h.xo a e).1,(h.xo a e).2⟩⟩
theorem RgOut.ne {W W':World} {r:RBx×Option (List (List UInt8)×List UInt8)×Int} {A:Option Addr} {n c:Nat} {B:Option Addr} {m k M:Nat} (h:RgOut W none r A n c B m k W') (hM:M<W.heap.size):(∀a,A=some a→a.block≠M)∧∀a,B=some a→a.block≠M:=
 ⟨fun a e=>(h.off a e).elim (fun h=>by omega) (fun h=>by cases h),fun a e=>by have:=(h.xo a e).1;omega⟩
theorem fin9 {w8 wv W1 W2 W3:World} {M9 M12 M13:Nat} {A B:Option Addr} {l x:List Value} (S:Below w8.heap.size w8 wv) (g1:wv.grownBy W1 (some M9)) (g2:W1.grownBy W2 (some M12)) (g3:W2.grownBy W3 (some M13)) (m9:M9<w8.heap.size) (m12:w8.heap.size≤M12) (m13:w8.heap.size≤M13)
  (hs:S9 w8 wv A B l x) (h12:(∀a,A=some a→a.block≠M12)∧∀a,B=some a→a.block≠M12) (h13:(∀a,A=some a→a.block≠M13)∧∀a,B=some a→a.block≠M13) :
  RdV W3 A l∧(∀a,A=some a→w8.heap.size≤a.block∧a.block<W3.heap.size)∧RdV W3 B x∧(∀a,B=some a→w8.heap.size≤a.block∧a.block<W3.heap.size)∧w8.grownBy W3 (some M9):=by
 have hz:wv.heap.size≤W3.heap.size:=kQk g1.size (kQk g2.size g3.size)
 refine⟨((hs.ra.grown g1 ?_).grown g2 ?_).grown g3 ?_,fun a e=>⟨(hs.oa a e).1,kQb (hs.oa a e).2 hz⟩,((hs.rb.grown g1 ?_).grown g2 ?_).grown g3 ?_,fun a e=>⟨(hs.ob a e).1,kQb (hs.ob a e).2 hz⟩,?_⟩
 ·rintro g ⟨⟩ a e;have:=hs.oa a e;omega
 ·rintro g ⟨⟩ a e;exact h12.1 a e
 ·rintro g ⟨⟩ a e;exact h13.1 a e
 ·rintro g ⟨⟩ a e;have:=hs.ob a e;omega
 ·rintro g ⟨⟩ a e;exact h12.2 a e
 ·rintro g ⟨⟩ a e;exact h13.2 a e
 ·have h0:w8.grownBy wv (some M9):=⟨S.os,S.tape,S.output,S.size,fun i hi _=>S.block i hi⟩
  have h1:w8.grownBy W1 (some M9):=⟨g1.os.trans h0.os,g1.tape.trans h0.tape,g1.output.trans h0.output,kQk h0.size g1.size,fun i hi hr=>(g1.block i (kQb hi h0.size) hr).trans (h0.block i hi hr)⟩
  exact qJG (qJG h1 g2 m12) g3 m13
theorem tail17 {ops:Array Oper} {Q:Exit→Act→World→Prop} {a:Act} {wv:World} {o10 o11 o12:Oper} (e10:ops.toList[10]?=some o10) (e11:ops.toList[11]?=some o11) (e12:ops.toList[12]?=some o12)
  (g10:o10.guard=none∧o10.dst=none∧o10.op=.store 32 (.tmp 9) (.tmp 124)) (g11:o11.guard=none∧o11.dst=none∧o11.op=.store 45 (.tmp 17) (.tmp 125)) (g12:o12.guard=none∧o12.dst=some 18∧o12.op=.assign (.tmp 126))
  {M9 M17:Nat} {hs cs rs:Array Value} (h9:a.eval (.tmp 9)=.pointer (some ⟨M9,0,none⟩)) (h17:a.eval (.tmp 17)=.pointer (some ⟨M17,0,none⟩)) (h124:a.eval (.tmp 124)=.agg hs) (h125:a.eval (.tmp 125)=.agg rs)
  (R9:wv.heap[M9]?=some (.cells cs 32 (0,0))) (R17:wv.heap[M17]?=some (.cells RgZ 45 (0,0)))
  (i1:(Tryz.prog.info? 32).map (·.size)=some hs.size) (s1:cs.size=hs.size) (o1:hs.all (·.oneCell')=true) (i2:(Tryz.prog.info? 45).map (·.size)=some rs.size) (s2:RgZ.size=rs.size) (o2:rs.all (·.oneCell')=true) (n1:M9≠M17)
  (h:∀W1 W2:World,wv.grownBy W1 (some M9)→W1.grownBy W2 (some M17)→W2.heap[M9]?=some (.cells hs 32 (0,0))→W2.heap[M17]?=some (.cells rs 45 (0,0))→Q .normal (a.put (some 18) (a.eval (.tmp 126))) W2):qKH Tryz.prog ops Q [10,11,12] a wv:=by
 refine tail_t e10 g10.1 (fun K hK=>?_)
 refine qQN 32 (.tmp 9) (.tmp 124) g10.2.2 M9 hs h9 h124 _ _ R9 i1 s1 o1 ?_
 intro W1 z1 b1 _
 rw[g10.2.1]
 refine hK.out _ _ (tail_t e11 g11.1 (fun K hK=>?_))
 refine qQN 45 (.tmp 17) (.tmp 125) g11.2.2 M17 rs h17 h125 _ _ (qQd b1 (fun e=>n1 (Option.some.inj e).symm) R17) i2 s2 o2 ?_
 intro W2 z2 b2 _
 rw[g11.2.1]
 refine hK.out _ _ (tail_v e12 g12.1 (v:=a.eval (.tmp 126)) ?_ (tail_nil ?_))
 ·unfold execOp
  simp only [g12.2.2,Sem.run_pure]
  rfl
 ·rw [g12.2.1]
  exact h W1 W2 b1 b2 (qQd b2 (fun e=>n1 (Option.some.inj e)) z1) z2
theorem ringMakes_walk (w:World) (a0:Int) (b0 : -9223372036854775808≤a0∧a0≤9223372036854775807) (A1:Option Addr) (c1:Nat) (l1:List UInt8) (R1:RdB w A1 l1) (n1:l1.length≤c1) (m1:c1≤9223372036854775807) (b1:∀a,A1=some a→a.block<w.heap.size) (z1:l1.length≤140737488351232)
  (A2:Option Addr) (c2:Nat) (zs:List Mem) (R2:RdM w A2 zs) (n2:zs.length≤c2) (b2:zs≠[]→∀a,A2=some a→a.block<w.heap.size) :
  Calls Tryz.prog 3 #[.int .i64 a0,.slice A1 l1.length c1,.slice A2 zs.length c2] w fun e w'=>e=.returned (.bool true)∧Below w.heap.size w w':=by
 have ZK:=Lh zeroK
 have F0:=Lh R1
 have H0:=Lh R2
 have L0:=Lh b2
 obtain⟨n,hn⟩:∃n,n=l1.length:=⟨_,rfl⟩
 obtain⟨q,hq⟩:∃q,q=zs.length:=⟨_,rfl⟩
 rw[←hn,←hq]
 have NE:=Lh hn.symm
 have Q1:=Lh hq.symm
 have NC:=Lh (show n≤c1∧q≤c2 by omega)
 have d0:(n:Int)≤140737488351232:=by omega
 obtain⟨k,hk,hek⟩:=mask_i64 a0 1 (by omega)
 have eM:bits .and .i64 a0 1=(k:Int):=hek
 have KM:=Lh (show k=0∨k=1 by omega)
 clear R1 R2 n1 m1 b1 z1 n2 b2 hn hq hk hek
 go_enter Tryz.func3,Tryz.ntmps3
 by_cases h200:200<n
 ·have hD:decide ((n:Int)>200)=true:=by simp;omega
  go_wp2_with fail
  go_ret
  exact⟨rfl,Below.refl _ _⟩
 have hD1:decide ((n:Int)>200)=false:=by simp;omega
 by_cases h12:12<q
 ·have hD:decide ((q:Int)>12)=true:=by simp;omega
  go_wp2_with fail
  go_ret
  exact⟨rfl,Below.refl _ _⟩
 have hD2:decide ((q:Int)>12)=false:=by simp;omega
 have N2:=Lh (show n≤200 by omega)
 have Q12:=Lh (show q≤12 by omega)
 have q12:(q:Int)≤12:=by omega
 have qw:IntKind.u64.wrap (q:Int)=(q:Int):=by rw [IntKind.wrap_u64];omega
 clear h200 h12 d0
 have HOK:=Lh H0.out.ok
 go_upto_region 4 with fail
 clear eM
 go_wp2_with fail
 have RV:=Lh (RdV.row (g:=w.heap.size) (l:=[.slice A1 n c1]) (t:=22) (fr:=(0,0)) (w:=w.alloc (.cells #[.slice A1 n c1] 22)) (qQk _ _ _ rfl))
 have B3:=Lh (qQh w (.cells #[.slice A1 n c1] 22))
 generalize World.alloc w _=w3 at *
 refine(dnew_any w3 _ 1 1 _ [l1] rfl RV.out (.cons ⟨_,c1,by rw [NE.out],by rw [NE.out];exact NC.out.1,F0.out.keep B3.out⟩ .nil) (by have:=NE.out;have:=N2.out;simp;omega) (by omega)).mono ?_
 rw[show([l1]:List (List UInt8)).flatten=l1 by simp]
 rintro e w4 ⟨S,D,rfl,hg,hD1,hD2,hs,hb⟩
 have SW:=Lh (SrcW.new hg hD1 hD2 hs hb)
 clear hg hD1 hD2 hs hb
 go_wp2_with fail
 refine(bnew_any w3 S D l1 0 w4 SW.out k KM.out).mono ?_
 rintro e w5 ⟨g,b,lo,rfl,hbx,hb2,hlo⟩
 have X:=Lh hbx
 have XL:=Lh hlo
 clear hbx hb2 hlo SW
 have BW5:=Lh (B3.out.trans (X.out.bel.mono B3.out.size))
 have Z0:=Lh (show(Tryz.prog.info? 32).map (·.size)=some (RBC k l1 0 none 0 0).size from qQK)
 go_upto_region 8 with (first
  | (refine qQa rfl (qZo 22 9 (.tmp 51) rfl Tryz.underlying22 Tryz.underlying5 Tryz.underlying9 (F0.out.keep BW5.out) n c1 NE.out rfl) ?_)
  | (refine qQa rfl (run_newrbx (.tmp 50) (.tmp 52) rfl k l1 rfl rfl _) ?_)
  | (refine qQp rfl rfl 32 (.tmp 9) (.tmp 53) rfl (RBC k l1 0 none 0 0) rfl rfl Z0.out rfl (qQ3 _ _ _ _ _ _) ?_))
 generalize hM9:Array.size (World.heap w5)=M9
 generalize hw6:World.alloc w5 _=w6
 obtain⟨L,hL⟩:∃L,L=w6.heap.size:=⟨_,rfl⟩
 obtain⟨s0,hs0⟩:∃s0:BSt,s0=⟨k,l1,0,[],0⟩:=⟨_,rfl⟩
 obtain⟨q0,hq0⟩:∃q0:RBx,q0=⟨k,l1,0,[]⟩:=⟨_,rfl⟩
 have REL:=Lh (show RelB s0 q0 by rw [hs0,hq0];exact⟨rfl,rfl,rfl,rfl,fun _=>rfl,fun _=>rfl⟩)
 have SE:=Lh hs0
 have QE:=Lh hq0
 have P:=Lh (show BqW w w3 g S D b L M9 s0 q0 none 0 0 w6 by
  have hl:=X.out.lt
  have hb:Below w5.heap.size w5 w6:=by rw [←hw6];exact qQh _ _
  have hz:w6.heap.size=w5.heap.size+1:=by rw [←hw6,qQD]
  rw[hs0,hq0]
  refine⟨B3.out,(X.out.keep hb).raise rfl (by have:=XL.out;omega),by rw [←hw6];exact qQk _ _ _ hM9.symm,RdV.nil _ _,rfl,kQh _,fun a e=>(by cases e),Nat.le_of_eq hL,?_,by rw [←hM9];exact X.out.bel.size⟩
  rw[←hM9]
  exact⟨hl.1,hl.2.1,hl.2.2.1,hl.2.2.2,by omega⟩)
 have LT:=Lh (show g<L∧S<L∧D<L∧b<L by have:=P.out.m9;omega)
 have LE:=Lh hL
 clear hM9 hw6 X XL RV Z0 hL hs0 hq0 BW5
 obtain⟨ep,hep⟩:∃ep:UInt64,(ep.toNat:Int)=(q:Int):=⟨UInt64.ofNat q,by rw [UInt64.toNat_ofNat_of_lt' (Nat.lt_of_le_of_lt Q12.out (by decide))]⟩
 have EP:=Lh hep
 obtain⟨mq,hmq⟩:∃mq,mq=qJ6 ep zs q0:=⟨_,rfl⟩
 have MQ:=Lh hmq
 clear hep hmq
 have MK4:=Lh (show Calls Tryz.prog 7 #[.pointer (some ⟨g,0,none⟩),.int .u64 (q:Int),.slice A2 q c2] w6 (MakeP w3 g S D b L ep zs s0 w6) by
  rw[←EP.out,←Q1.out]
  have hbel:=P.out.bel.size
  have hmode:s0.mode=0∨s0.mode=1:=by rw [SE.out];exact KM.out
  exact make_any w3 g S D b L s0 w6 P.out.box hmode ep A2 c2 zs (H0.out.keep P.out.bel) (by rw [Q1.out];exact NC.out.2) (by rw [Q1.out];have:=Q12.out;omega) (fun h a e=>by have:=L0.out h a e;have:=P.out.b3.size;have:=P.out.box.hg;have:=P.out.box.hS;have:=P.out.box.hb;omega) (by rw [SE.out];show 0+11000≤900000;omega) (by rw [SE.out];show l1.length≤100000;have:=NE.out;have:=N2.out;omega) (by rw [SE.out];show 0≤5000;omega) (by rw [SE.out];show 0≤50000;omega) P.out.lov LT.out.2.2.1 (by have:=P.out.m9;have:=P.out.w39;omega))
 refine wp_region_list ?_
 simp only [kQf]
 refine qQa (by rfl) (by go_simp;rfl) ?_
 simp only [Act.put,pq1,pq2,pq3]
 refine qQa (by rfl) (by go_simp;rfl) ?_
 simp only [Act.put,pq1,pq2,pq3]
 refine qQa (by rfl) (by go_simp;rfl) ?_
 simp only [Act.put,pq1,pq2,pq3]
 refine qQa (by rfl) (by go_simp;rfl) ?_
 simp only [Act.put,pq1,pq2,pq3]
 refine qQa (by rfl) (by go_simp;rfl) ?_
 simp only [Act.put,pq1,pq2,pq3]
 refine qQs (by rfl) (fun K hK=>?_)
 go_simp
 refine MK4.out.mono ?_
 clear MK4
 rintro e w7 hmp
 obtain⟨ra,ya,s1,rfl,hans,hok,hbad,hgood⟩:=make_ans HOK.out hmp P.out.box REL.out
 rw[←MQ.out]at hans hbad hgood ⊢
 have AN:=Lh hans
 have OYA:=Lh hok
 have YB:=Lh hbad
 have YG:=Lh hgood
 have P7:=Lh (P.out.said hans.box hans.fr)
 have L6:=Lh (show L≤w7.heap.size from kQk P.out.lov hans.fr.1)
 clear hans hok hbad hgood hmp P
 obtain⟨ea,hea⟩:∃ea,ea=mq.2.2:=⟨_,rfl⟩
 rw[←hea]
 have EA:=Lh hea
 clear hea
 refine hK.out _ _ ?_
 clear hK K
 have IRA:=Lh (show(Tryz.prog.info? 35).map (·.size)=some ra.size by rw [AN.out.sz];exact qZi)
 refine qQa (by rfl) (by go_simp;rfl) ?_
 simp only [Act.put,pq1,pq2,pq3]
 refine qQa (by rfl) (by go_simp;rfl) ?_
 simp only [Act.put,pq1,pq2,pq3]
 refine qQa (by rfl) (by go_simp;rfl) ?_
 simp only [Act.put,pq1,pq2,pq3]
 refine qQa (by rfl) (by go_simp;rfl) ?_
 simp only [Act.put,pq1,pq2,pq3]
 refine qQs (by rfl) (fun K hK=>?_)
 go_simp
 refine hK.out _ _ ?_
 clear hK K
 refine qQs (by rfl) (fun K hK=>?_)
 go_simp
 refine hK.out _ _ ?_
 clear hK K
 rw[←ZK.out]
 generalize hM3:Array.size (World.heap w7)=M10
 generalize hwa:World.alloc w7 _=wa
 have sa:wa.heap.size=M10+1:=by rw [←hwa,qQD,hM3]
 have ra':wa.heap[M10]?=some (.cells RingZ 35 (0,0)):=by rw [←hwa];exact qQk _ _ _ hM3.symm
 generalize hwb:World.alloc wa _=wb
 have ba:Below wa.heap.size wa wb:=by rw [←hwb];exact qQh _ _
 have r1:=Lh (qQb ba (qQe ra') ra')
 have r2:=Lh (show wb.heap[M10+1]?=some (.cells (RowK kysZ).toArray 40 (0,0)) by rw [←hwb];exact qQk _ _ _ sa.symm)
 have bb:=Lh (show Below w7.heap.size w7 wb from by
  have h1:Below w7.heap.size w7 wa:=by rw [←hwa];exact qQh _ _
  exact h1.trans (ba.mono h1.size))
 have MEA:=Lh hM3
 clear hwa sa ra' hwb ba hM3
 refine qQf rfl rfl 35 (.tmp 10) (.tmp 61) rfl M10 ra rfl rfl 35 _ r1.out IRA.out (by rw [AN.out.sz];rfl) AN.out.one ?_
 intro wc hzc hgc _
 refine qQf rfl rfl 40 (.tmp 11) (.tmp 62) rfl (M10+1) (RowK ya).toArray rfl rfl 40 _ (qQd hgc (fun e=>by have:=Option.some.inj e;omega) r2.out) (qQO _ OYA.out) (by rw [qXN _ qZr,qXN _ OYA.out]) (qZO _) ?_
 intro w8 hzd hgd _
 have RA:=Lh (qQd hgd (fun e=>by have:=Option.some.inj e;omega) hzc)
 have KA:=Lh hzd
 have BA:=Lh (show Below w7.heap.size w7 w8 from qQo (qQo bb.out hgc (by rw [MEA.out];exact kQh _)) hgd (by rw [MEA.out];omega))
 clear hzc hgc hzd hgd r1 r2 bb
 have P8:=Lh (P7.out.keep BA.out)
 have M10L:=Lh (show L≤M10 by rw [←MEA.out];exact L6.out)
 obtain⟨cs,hcs⟩:∃cs,cs=RBC q0.mode q0.F q0.u none 0 0:=⟨_,rfl⟩
 have CE:=Lh hcs
 have CZ:=Lh (show(Tryz.prog.info? 32).map (·.size)=some cs.size by rw [hcs];exact qQK)
 have C4:=Lh (show(4:Nat)=cs.size by rw [hcs];rfl)
 have RB:=Lh (show w8.heap[M9]?=some (.cells cs 32 (0,0)) by rw [hcs];exact P8.out.row)
 have RM8:=Lh (H0.out.keep P8.out.bel)
 obtain⟨kq,hkq⟩:∃kq:Kys,kq=if ea=0 then qJC q0 ep else kysE:=⟨_,rfl⟩
 have KQ:=Lh hkq
 obtain⟨ks,hks⟩:∃ks,ks=RowQ kq:=⟨_,rfl⟩
 have KE:=Lh hks
 have KZ:=Lh (show(Tryz.prog.info? 47).map (·.size)=some ks.size by rw [hks];exact qZH _)
 have KO:=Lh (show ks.all (·.oneCell')=true by rw [hks];exact qX0 _)
 have K4:=Lh (show(RowQ kysE).size=ks.size by rw [hks];rfl)
 clear hcs hkq hks
 go_upto_region 9 with fail
 go_cut [12,13,14] (fun v12 v13 v14 wy=>∃M12 M13 A' n' c' B m k',v12=.pointer (some ⟨M12,0,none⟩)∧v13=.pointer (some ⟨M13,0,none⟩)∧v14=.int .i64 ea∧w8.heap.size≤M12∧w8.heap.size≤M13∧M12≠M13∧wy.heap[M12]?=some (.cells #[.slice B m k',.string (strB (mq.2.1.getD ([],[])).2)] 45 (0,0))∧wy.heap[M13]?=some (.cells ks 47 (0,0))∧
  wy.heap[M9]?=some (.cells (RBC mq.1.mode mq.1.F mq.1.u A' n' c') 32 (0,0))∧RdV wy A' (EC mq.1.L)∧mq.1.L.length=n'∧n'≤c'∧(∀a,A'=some a→w8.heap.size≤a.block∧a.block<wy.heap.size)∧RdV wy B (SX (mq.2.1.getD ([],[])).1)∧(mq.2.1.getD ([],[])).1.length=m∧m≤k'∧(∀a,B=some a→w8.heap.size≤a.block∧a.block<wy.heap.size)∧w8.grownBy wy (some M9))
 case first=>
  as_aux_lemma=>
  have S:=Lh (show Below w8.heap.size w8 w8.drew from(Below.refl _ _).drew)
  have M98:=Lh (qQe RB.out)
  refine qVh (fun W=>Below w8.heap.size w8 W) 14 [14,15,16,17] (.q 0 (.q 1 (.q 2 (.q 3 (.q 4 (.three 5 (.three 6 (.q 7 (.q 8 (.q 9 (.q 10 (.q 11 (.two 12 (.t 13 .done) 13 (.t 12 .done))))))) 12 (.two 6 (.q 7 (.q 8 (.q 9 (.q 10 (.q 11 (.t 13 .done)))))) 13 (.t 6 (.q 7 (.q 8 (.q 9 (.q 10 (.q 11 .done))))))) 13 (.two 6 (.q 7 (.q 8 (.q 9 (.q 10 (.q 11 (.t 12 .done)))))) 12 (.t 6 (.q 7 (.q 8 (.q 9 (.q 10 (.q 11 .done)))))))) 12 (.two 5 (.two 6 (.q 7 (.q 8 (.q 9 (.q 10 (.q 11 (.t 13 .done)))))) 13 (.t 6 (.q 7 (.q 8 (.q 9 (.q 10 (.q 11 .done))))))) 13 (.t 5 (.t 6 (.q 7 (.q 8 (.q 9 (.q 10 (.q 11 .done)))))))) 13 (.two 5 (.two 6 (.q 7 (.q 8 (.q 9 (.q 10 (.q 11 (.t 12 .done)))))) 12 (.t 6 (.q 7 (.q 8 (.q 9 (.q 10 (.q 11 .done))))))) 12 (.t 5 (.t 6 (.q 7 (.q 8 (.q 9 (.q 10 (.q 11 .done)))))))))))))) (by kernel_rfl) (by kernel_rfl) (fun _ _ d _ _ h=>by cases d<;>exact h) ?_
  generalize World.drew w8=wv at *
  refine qQn rfl rfl S.out (fun W hW=>qQj 32 (.tmp 9) rfl M9 rfl 32 cs (0,0) _ (qQb hW (qQe RB.out) RB.out) Tryz.underlying32 rfl CZ.out) ?_
  simp only [Act.put,pq1,pq2,pq3]
  refine qQn rfl rfl S.out (fun W hW=>by go_simp;rfl) ?_
  simp only [Act.put,pq1,pq2,pq3]
  refine qQn rfl rfl S.out (fun W hW=>by go_simp;rfl) ?_
  simp only [Act.put,pq1,pq2,pq3]
  refine qQn rfl rfl S.out (fun W hW=>by go_simp;rfl) ?_
  simp only [Act.put,pq1,pq2,pq3]
  refine qQn rfl rfl S.out (fun W hW=>by go_simp;rfl) ?_
  simp only [Act.put,pq1,pq2,pq3]
  refine qYu ?_ ?_ ?_
  ·
   refine qQx rfl rfl (fun K hK=>?_)
   go_simp
   refine(qW2 wv A2 q c2 zs Q1.out (RM8.out.keep S.out) (by have:=Q12.out;omega)).mono ?_
   rintro e wv ⟨Am,cm,rfl,hrm,hcm,_,hb⟩
   have S:=Lh (S.out.trans (hb.mono S.out.size))
   have RMM:=Lh hrm
   try have R12:=Lh (qQb hb (qQe R12.out) R12.out)
   try have R13:=Lh (qQb hb (qQe R13.out) R13.out)
   clear hrm hcm hb
   refine hK.out _ _ S.out ?_
   clear hK K
   refine qYu ?_ ?_ ?_
   ·
    refine qQx rfl rfl (fun K hK=>?_)
    go_simp
    rw[CE.out,←EP.out]
    refine(qXa wv q0 (by rw [QE.out];exact KM.out) none 0 0 (by rw [QE.out];rfl) (kQh _) (by rw [QE.out];exact RdV.nil _ _) (by rintro a ⟨⟩) ep Am q cm zs Q1.out RMM.out HOK.out (by have:=Q12.out;omega) (by rw [QE.out];show l1.length≤2900;have:=NE.out;have:=N2.out;omega) (by rw [QE.out];show 0≤600000;omega) (by omega)).mono ?_
    rw[←CE.out,EP.out,←MQ.out]
    have LW:=Lh (show w8.heap.size≤wv.heap.size from S.out.size)
    try have LT12:=Lh (qQe R12.out)
    try have LT13:=Lh (qQe R13.out)
    rintro e wv ⟨A',n',c',B,m,k',rfl,hO⟩
    rw[←EA.out,←KQ.out,←KE.out]
    have S:=Lh (S.out.trans (hO.bel.mono S.out.size))
    try have R12:=Lh (qQb hO.bel (qQe R12.out) R12.out)
    try have R13:=Lh (qQb hO.bel (qQe R13.out) R13.out)
    have XS:=Lh (hO.s9 LW.out)
    have XL:=Lh (show mq.1.L.length=n'∧n'≤c'∧(mq.2.1.getD ([],[])).1.length=m∧m≤k' from⟨hO.ln,hO.cap,hO.xl,hO.xc⟩)
    try have AM12:=Lh (hO.ne LT12.out)
    try have AM13:=Lh (hO.ne LT13.out)
    clear hO
    refine hK.out _ _ S.out ?_
    clear hK K
    refine qQn rfl rfl S.out (fun W hW=>by go_simp;rfl) ?_
    simp only [Act.put,pq1,pq2,pq3]
    refine qQn rfl rfl S.out (fun W hW=>by go_simp;rfl) ?_
    simp only [Act.put,pq1,pq2,pq3]
    refine qQn rfl rfl S.out (fun W hW=>by go_simp;rfl) ?_
    simp only [Act.put,pq1,pq2,pq3]
    refine qQn rfl rfl S.out (fun W hW=>by go_simp;rfl) ?_
    simp only [Act.put,pq1,pq2,pq3]
    refine qQn rfl rfl S.out (fun W hW=>by go_simp;rfl) ?_
    simp only [Act.put,pq1,pq2,pq3]
    refine qZh ?_ ?_
    ·
     refine qQx rfl rfl (fun K hK=>?_)
     go_simp
     generalize hM:Array.size (World.heap wv)=M12
     generalize hwn:World.alloc wv _=wn
     have bn:Below wv.heap.size wv wn:=by rw [←hwn];exact qQh _ _
     have MS12:=Lh (show w8.heap.size≤M12 by rw [←hM];exact S.out.size)
     have R12:=Lh (show wn.heap[M12]?=some (.cells RgZ 45 (0,0)) by rw [←hwn];exact qQk _ _ _ hM.symm)
     try have RMM:=Lh (RMM.out.keep bn)
     try have AM12:=Lh (XS.out.ne hM)
     try have XS:=Lh (XS.out.keep bn)
     try have NM:=Lh (show M12≠M13 by have:=qQe R13.out;omega)
     try have R13:=Lh (qQb bn (qQe R13.out) R13.out)
     have S:=Lh (S.out.trans (bn.mono S.out.size))
     clear hM hwn bn
     obtain⟨wv,rfl⟩:∃wv:World,wv=wn:=⟨_,rfl⟩
     refine hK.out _ _ S.out ?_
     clear hK K
     refine qQx rfl rfl (fun K hK=>?_)
     go_simp
     generalize hM:Array.size (World.heap wv)=M13
     generalize hwn:World.alloc wv _=wn
     have bn:Below wv.heap.size wv wn:=by rw [←hwn];exact qQh _ _
     have MS13:=Lh (show w8.heap.size≤M13 by rw [←hM];exact S.out.size)
     have R13:=Lh (show wn.heap[M13]?=some (.cells (RowQ kysE) 47 (0,0)) by rw [←hwn];exact qQk _ _ _ hM.symm)
     try have RMM:=Lh (RMM.out.keep bn)
     try have AM13:=Lh (XS.out.ne hM)
     try have XS:=Lh (XS.out.keep bn)
     try have NM:=Lh (show M12≠M13 by have:=qQe R12.out;omega)
     try have R12:=Lh (qQb bn (qQe R12.out) R12.out)
     have S:=Lh (S.out.trans (bn.mono S.out.size))
     clear hM hwn bn
     obtain⟨wv,rfl⟩:∃wv:World,wv=wn:=⟨_,rfl⟩
     refine hK.out _ _ S.out ?_
     clear hK K
     refine qXp (qKn (M9:=M9) (M12:=M12) (M13:=M13) (hs:=RBC mq.1.mode mq.1.F mq.1.u A' n' c') (cs:=cs) (rs:=#[.slice B m k',.string (strB (mq.2.1.getD ([],[])).2)]) (ks:=ks) rfl rfl rfl rfl ⟨rfl,rfl,rfl⟩ ⟨rfl,rfl,rfl⟩ ⟨rfl,rfl,rfl⟩ ⟨rfl,rfl,rfl⟩ rfl rfl rfl rfl rfl rfl
      (qQb S.out (qQe RB.out) RB.out) R12.out R13.out qQK C4.out.symm (qQ3 _ _ _ _ _ _) qZR rfl (by simp [Value.oneCell']) KZ.out K4.out KO.out (by have:=MS12.out;have:=M98.out;omega) (by have:=MS13.out;have:=M98.out;omega) NM.out ?_)
     intro W1 W2 W3 g1 g2 g3 r9 r12 r13
     simp only [Act.put,pq1,pq2,pq3]
     go_wp2_with fail
     go_meet
     obtain⟨f1,f2,f3,f4,f5⟩:=fin9 S.out g1 g2 g3 M98.out MS12.out MS13.out XS.out AM12.out AM13.out
     exact⟨M12,M13,A',n',c',B,m,k',rfl,rfl,rfl,MS12.out,MS13.out,NM.out,r12,r13,r9,f1,XL.out.1,XL.out.2.1,f2,f3,XL.out.2.2.1,XL.out.2.2.2,f4,f5⟩
    ·
     refine qQx rfl rfl (fun K hK=>?_)
     go_simp
     generalize hM:Array.size (World.heap wv)=M13
     generalize hwn:World.alloc wv _=wn
     have bn:Below wv.heap.size wv wn:=by rw [←hwn];exact qQh _ _
     have MS13:=Lh (show w8.heap.size≤M13 by rw [←hM];exact S.out.size)
     have R13:=Lh (show wn.heap[M13]?=some (.cells (RowQ kysE) 47 (0,0)) by rw [←hwn];exact qQk _ _ _ hM.symm)
     try have RMM:=Lh (RMM.out.keep bn)
     try have AM13:=Lh (XS.out.ne hM)
     try have XS:=Lh (XS.out.keep bn)
     try have NM:=Lh (show M12≠M13 by have:=qQe R12.out;omega)
     try have R12:=Lh (qQb bn (qQe R12.out) R12.out)
     have S:=Lh (S.out.trans (bn.mono S.out.size))
     clear hM hwn bn
     obtain⟨wv,rfl⟩:∃wv:World,wv=wn:=⟨_,rfl⟩
     refine hK.out _ _ S.out ?_
     clear hK K
     refine qQx rfl rfl (fun K hK=>?_)
     go_simp
     generalize hM:Array.size (World.heap wv)=M12
     generalize hwn:World.alloc wv _=wn
     have bn:Below wv.heap.size wv wn:=by rw [←hwn];exact qQh _ _
     have MS12:=Lh (show w8.heap.size≤M12 by rw [←hM];exact S.out.size)
     have R12:=Lh (show wn.heap[M12]?=some (.cells RgZ 45 (0,0)) by rw [←hwn];exact qQk _ _ _ hM.symm)
     try have RMM:=Lh (RMM.out.keep bn)
     try have AM12:=Lh (XS.out.ne hM)
     try have XS:=Lh (XS.out.keep bn)
     try have NM:=Lh (show M12≠M13 by have:=qQe R13.out;omega)
     try have R13:=Lh (qQb bn (qQe R13.out) R13.out)
     have S:=Lh (S.out.trans (bn.mono S.out.size))
     clear hM hwn bn
     obtain⟨wv,rfl⟩:∃wv:World,wv=wn:=⟨_,rfl⟩
     refine hK.out _ _ S.out ?_
     clear hK K
     refine qXp (qKn (M9:=M9) (M12:=M12) (M13:=M13) (hs:=RBC mq.1.mode mq.1.F mq.1.u A' n' c') (cs:=cs) (rs:=#[.slice B m k',.string (strB (mq.2.1.getD ([],[])).2)]) (ks:=ks) rfl rfl rfl rfl ⟨rfl,rfl,rfl⟩ ⟨rfl,rfl,rfl⟩ ⟨rfl,rfl,rfl⟩ ⟨rfl,rfl,rfl⟩ rfl rfl rfl rfl rfl rfl
      (qQb S.out (qQe RB.out) RB.out) R12.out R13.out qQK C4.out.symm (qQ3 _ _ _ _ _ _) qZR rfl (by simp [Value.oneCell']) KZ.out K4.out KO.out (by have:=MS12.out;have:=M98.out;omega) (by have:=MS13.out;have:=M98.out;omega) NM.out ?_)
     intro W1 W2 W3 g1 g2 g3 r9 r12 r13
     simp only [Act.put,pq1,pq2,pq3]
     go_wp2_with fail
     go_meet
     obtain⟨f1,f2,f3,f4,f5⟩:=fin9 S.out g1 g2 g3 M98.out MS12.out MS13.out XS.out AM12.out AM13.out
     exact⟨M12,M13,A',n',c',B,m,k',rfl,rfl,rfl,MS12.out,MS13.out,NM.out,r12,r13,r9,f1,XL.out.1,XL.out.2.1,f2,f3,XL.out.2.2.1,XL.out.2.2.2,f4,f5⟩
   ·
    refine qQx rfl rfl (fun K hK=>?_)
    go_simp
    generalize hM:Array.size (World.heap wv)=M12
    generalize hwn:World.alloc wv _=wn
    have bn:Below wv.heap.size wv wn:=by rw [←hwn];exact qQh _ _
    have MS12:=Lh (show w8.heap.size≤M12 by rw [←hM];exact S.out.size)
    have R12:=Lh (show wn.heap[M12]?=some (.cells RgZ 45 (0,0)) by rw [←hwn];exact qQk _ _ _ hM.symm)
    try have RMM:=Lh (RMM.out.keep bn)
    try have AM12:=Lh (XS.out.ne hM)
    try have XS:=Lh (XS.out.keep bn)
    try have NM:=Lh (show M12≠M13 by have:=qQe R13.out;omega)
    try have R13:=Lh (qQb bn (qQe R13.out) R13.out)
    have S:=Lh (S.out.trans (bn.mono S.out.size))
    clear hM hwn bn
    obtain⟨wv,rfl⟩:∃wv:World,wv=wn:=⟨_,rfl⟩
    refine hK.out _ _ S.out ?_
    clear hK K
    refine qZh ?_ ?_
    ·
     refine qQx rfl rfl (fun K hK=>?_)
     go_simp
     rw[CE.out,←EP.out]
     refine(qXa wv q0 (by rw [QE.out];exact KM.out) none 0 0 (by rw [QE.out];rfl) (kQh _) (by rw [QE.out];exact RdV.nil _ _) (by rintro a ⟨⟩) ep Am q cm zs Q1.out RMM.out HOK.out (by have:=Q12.out;omega) (by rw [QE.out];show l1.length≤2900;have:=NE.out;have:=N2.out;omega) (by rw [QE.out];show 0≤600000;omega) (by omega)).mono ?_
     rw[←CE.out,EP.out,←MQ.out]
     have LW:=Lh (show w8.heap.size≤wv.heap.size from S.out.size)
     try have LT12:=Lh (qQe R12.out)
     try have LT13:=Lh (qQe R13.out)
     rintro e wv ⟨A',n',c',B,m,k',rfl,hO⟩
     rw[←EA.out,←KQ.out,←KE.out]
     have S:=Lh (S.out.trans (hO.bel.mono S.out.size))
     try have R12:=Lh (qQb hO.bel (qQe R12.out) R12.out)
     try have R13:=Lh (qQb hO.bel (qQe R13.out) R13.out)
     have XS:=Lh (hO.s9 LW.out)
     have XL:=Lh (show mq.1.L.length=n'∧n'≤c'∧(mq.2.1.getD ([],[])).1.length=m∧m≤k' from⟨hO.ln,hO.cap,hO.xl,hO.xc⟩)
     try have AM12:=Lh (hO.ne LT12.out)
     try have AM13:=Lh (hO.ne LT13.out)
     clear hO
     refine hK.out _ _ S.out ?_
     clear hK K
     refine qQn rfl rfl S.out (fun W hW=>by go_simp;rfl) ?_
     simp only [Act.put,pq1,pq2,pq3]
     refine qQn rfl rfl S.out (fun W hW=>by go_simp;rfl) ?_
     simp only [Act.put,pq1,pq2,pq3]
     refine qQn rfl rfl S.out (fun W hW=>by go_simp;rfl) ?_
     simp only [Act.put,pq1,pq2,pq3]
     refine qQn rfl rfl S.out (fun W hW=>by go_simp;rfl) ?_
     simp only [Act.put,pq1,pq2,pq3]
     refine qQn rfl rfl S.out (fun W hW=>by go_simp;rfl) ?_
     simp only [Act.put,pq1,pq2,pq3]
     refine qQx rfl rfl (fun K hK=>?_)
     go_simp
     generalize hM:Array.size (World.heap wv)=M13
     generalize hwn:World.alloc wv _=wn
     have bn:Below wv.heap.size wv wn:=by rw [←hwn];exact qQh _ _
     have MS13:=Lh (show w8.heap.size≤M13 by rw [←hM];exact S.out.size)
     have R13:=Lh (show wn.heap[M13]?=some (.cells (RowQ kysE) 47 (0,0)) by rw [←hwn];exact qQk _ _ _ hM.symm)
     try have RMM:=Lh (RMM.out.keep bn)
     try have AM13:=Lh (XS.out.ne hM)
     try have XS:=Lh (XS.out.keep bn)
     try have NM:=Lh (show M12≠M13 by have:=qQe R12.out;omega)
     try have R12:=Lh (qQb bn (qQe R12.out) R12.out)
     have S:=Lh (S.out.trans (bn.mono S.out.size))
     clear hM hwn bn
     obtain⟨wv,rfl⟩:∃wv:World,wv=wn:=⟨_,rfl⟩
     refine hK.out _ _ S.out ?_
     clear hK K
     refine qXp (qKn (M9:=M9) (M12:=M12) (M13:=M13) (hs:=RBC mq.1.mode mq.1.F mq.1.u A' n' c') (cs:=cs) (rs:=#[.slice B m k',.string (strB (mq.2.1.getD ([],[])).2)]) (ks:=ks) rfl rfl rfl rfl ⟨rfl,rfl,rfl⟩ ⟨rfl,rfl,rfl⟩ ⟨rfl,rfl,rfl⟩ ⟨rfl,rfl,rfl⟩ rfl rfl rfl rfl rfl rfl
      (qQb S.out (qQe RB.out) RB.out) R12.out R13.out qQK C4.out.symm (qQ3 _ _ _ _ _ _) qZR rfl (by simp [Value.oneCell']) KZ.out K4.out KO.out (by have:=MS12.out;have:=M98.out;omega) (by have:=MS13.out;have:=M98.out;omega) NM.out ?_)
     intro W1 W2 W3 g1 g2 g3 r9 r12 r13
     simp only [Act.put,pq1,pq2,pq3]
     go_wp2_with fail
     go_meet
     obtain⟨f1,f2,f3,f4,f5⟩:=fin9 S.out g1 g2 g3 M98.out MS12.out MS13.out XS.out AM12.out AM13.out
     exact⟨M12,M13,A',n',c',B,m,k',rfl,rfl,rfl,MS12.out,MS13.out,NM.out,r12,r13,r9,f1,XL.out.1,XL.out.2.1,f2,f3,XL.out.2.2.1,XL.out.2.2.2,f4,f5⟩
    ·
     refine qQx rfl rfl (fun K hK=>?_)
     go_simp
     generalize hM:Array.size (World.heap wv)=M13
     generalize hwn:World.alloc wv _=wn
     have bn:Below wv.heap.size wv wn:=by rw [←hwn];exact qQh _ _
     have MS13:=Lh (show w8.heap.size≤M13 by rw [←hM];exact S.out.size)
     have R13:=Lh (show wn.heap[M13]?=some (.cells (RowQ kysE) 47 (0,0)) by rw [←hwn];exact qQk _ _ _ hM.symm)
     try have RMM:=Lh (RMM.out.keep bn)
     try have AM13:=Lh (XS.out.ne hM)
     try have XS:=Lh (XS.out.keep bn)
     try have NM:=Lh (show M12≠M13 by have:=qQe R12.out;omega)
     try have R12:=Lh (qQb bn (qQe R12.out) R12.out)
     have S:=Lh (S.out.trans (bn.mono S.out.size))
     clear hM hwn bn
     obtain⟨wv,rfl⟩:∃wv:World,wv=wn:=⟨_,rfl⟩
     refine hK.out _ _ S.out ?_
     clear hK K
     refine qQx rfl rfl (fun K hK=>?_)
     go_simp
     rw[CE.out,←EP.out]
     refine(qXa wv q0 (by rw [QE.out];exact KM.out) none 0 0 (by rw [QE.out];rfl) (kQh _) (by rw [QE.out];exact RdV.nil _ _) (by rintro a ⟨⟩) ep Am q cm zs Q1.out RMM.out HOK.out (by have:=Q12.out;omega) (by rw [QE.out];show l1.length≤2900;have:=NE.out;have:=N2.out;omega) (by rw [QE.out];show 0≤600000;omega) (by omega)).mono ?_
     rw[←CE.out,EP.out,←MQ.out]
     have LW:=Lh (show w8.heap.size≤wv.heap.size from S.out.size)
     try have LT12:=Lh (qQe R12.out)
     try have LT13:=Lh (qQe R13.out)
     rintro e wv ⟨A',n',c',B,m,k',rfl,hO⟩
     rw[←EA.out,←KQ.out,←KE.out]
     have S:=Lh (S.out.trans (hO.bel.mono S.out.size))
     try have R12:=Lh (qQb hO.bel (qQe R12.out) R12.out)
     try have R13:=Lh (qQb hO.bel (qQe R13.out) R13.out)
     have XS:=Lh (hO.s9 LW.out)
     have XL:=Lh (show mq.1.L.length=n'∧n'≤c'∧(mq.2.1.getD ([],[])).1.length=m∧m≤k' from⟨hO.ln,hO.cap,hO.xl,hO.xc⟩)
     try have AM12:=Lh (hO.ne LT12.out)
     try have AM13:=Lh (hO.ne LT13.out)
     clear hO
     refine hK.out _ _ S.out ?_
     clear hK K
     refine qQn rfl rfl S.out (fun W hW=>by go_simp;rfl) ?_
     simp only [Act.put,pq1,pq2,pq3]
     refine qQn rfl rfl S.out (fun W hW=>by go_simp;rfl) ?_
     simp only [Act.put,pq1,pq2,pq3]
     refine qQn rfl rfl S.out (fun W hW=>by go_simp;rfl) ?_
     simp only [Act.put,pq1,pq2,pq3]
     refine qQn rfl rfl S.out (fun W hW=>by go_simp;rfl) ?_
     simp only [Act.put,pq1,pq2,pq3]
     refine qQn rfl rfl S.out (fun W hW=>by go_simp;rfl) ?_
     simp only [Act.put,pq1,pq2,pq3]
     refine qXp (qKn (M9:=M9) (M12:=M12) (M13:=M13) (hs:=RBC mq.1.mode mq.1.F mq.1.u A' n' c') (cs:=cs) (rs:=#[.slice B m k',.string (strB (mq.2.1.getD ([],[])).2)]) (ks:=ks) rfl rfl rfl rfl ⟨rfl,rfl,rfl⟩ ⟨rfl,rfl,rfl⟩ ⟨rfl,rfl,rfl⟩ ⟨rfl,rfl,rfl⟩ rfl rfl rfl rfl rfl rfl
      (qQb S.out (qQe RB.out) RB.out) R12.out R13.out qQK C4.out.symm (qQ3 _ _ _ _ _ _) qZR rfl (by simp [Value.oneCell']) KZ.out K4.out KO.out (by have:=MS12.out;have:=M98.out;omega) (by have:=MS13.out;have:=M98.out;omega) NM.out ?_)
     intro W1 W2 W3 g1 g2 g3 r9 r12 r13
     simp only [Act.put,pq1,pq2,pq3]
     go_wp2_with fail
     go_meet
     obtain⟨f1,f2,f3,f4,f5⟩:=fin9 S.out g1 g2 g3 M98.out MS12.out MS13.out XS.out AM12.out AM13.out
     exact⟨M12,M13,A',n',c',B,m,k',rfl,rfl,rfl,MS12.out,MS13.out,NM.out,r12,r13,r9,f1,XL.out.1,XL.out.2.1,f2,f3,XL.out.2.2.1,XL.out.2.2.2,f4,f5⟩
   ·
    refine qQx rfl rfl (fun K hK=>?_)
    go_simp
    generalize hM:Array.size (World.heap wv)=M13
    generalize hwn:World.alloc wv _=wn
    have bn:Below wv.heap.size wv wn:=by rw [←hwn];exact qQh _ _
    have MS13:=Lh (show w8.heap.size≤M13 by rw [←hM];exact S.out.size)
    have R13:=Lh (show wn.heap[M13]?=some (.cells (RowQ kysE) 47 (0,0)) by rw [←hwn];exact qQk _ _ _ hM.symm)
    try have RMM:=Lh (RMM.out.keep bn)
    try have AM13:=Lh (XS.out.ne hM)
    try have XS:=Lh (XS.out.keep bn)
    try have NM:=Lh (show M12≠M13 by have:=qQe R12.out;omega)
    try have R12:=Lh (qQb bn (qQe R12.out) R12.out)
    have S:=Lh (S.out.trans (bn.mono S.out.size))
    clear hM hwn bn
    obtain⟨wv,rfl⟩:∃wv:World,wv=wn:=⟨_,rfl⟩
    refine hK.out _ _ S.out ?_
    clear hK K
    refine qZh ?_ ?_
    ·
     refine qQx rfl rfl (fun K hK=>?_)
     go_simp
     rw[CE.out,←EP.out]
     refine(qXa wv q0 (by rw [QE.out];exact KM.out) none 0 0 (by rw [QE.out];rfl) (kQh _) (by rw [QE.out];exact RdV.nil _ _) (by rintro a ⟨⟩) ep Am q cm zs Q1.out RMM.out HOK.out (by have:=Q12.out;omega) (by rw [QE.out];show l1.length≤2900;have:=NE.out;have:=N2.out;omega) (by rw [QE.out];show 0≤600000;omega) (by omega)).mono ?_
     rw[←CE.out,EP.out,←MQ.out]
     have LW:=Lh (show w8.heap.size≤wv.heap.size from S.out.size)
     try have LT12:=Lh (qQe R12.out)
     try have LT13:=Lh (qQe R13.out)
     rintro e wv ⟨A',n',c',B,m,k',rfl,hO⟩
     rw[←EA.out,←KQ.out,←KE.out]
     have S:=Lh (S.out.trans (hO.bel.mono S.out.size))
     try have R12:=Lh (qQb hO.bel (qQe R12.out) R12.out)
     try have R13:=Lh (qQb hO.bel (qQe R13.out) R13.out)
     have XS:=Lh (hO.s9 LW.out)
     have XL:=Lh (show mq.1.L.length=n'∧n'≤c'∧(mq.2.1.getD ([],[])).1.length=m∧m≤k' from⟨hO.ln,hO.cap,hO.xl,hO.xc⟩)
     try have AM12:=Lh (hO.ne LT12.out)
     try have AM13:=Lh (hO.ne LT13.out)
     clear hO
     refine hK.out _ _ S.out ?_
     clear hK K
     refine qQn rfl rfl S.out (fun W hW=>by go_simp;rfl) ?_
     simp only [Act.put,pq1,pq2,pq3]
     refine qQn rfl rfl S.out (fun W hW=>by go_simp;rfl) ?_
     simp only [Act.put,pq1,pq2,pq3]
     refine qQn rfl rfl S.out (fun W hW=>by go_simp;rfl) ?_
     simp only [Act.put,pq1,pq2,pq3]
     refine qQn rfl rfl S.out (fun W hW=>by go_simp;rfl) ?_
     simp only [Act.put,pq1,pq2,pq3]
     refine qQn rfl rfl S.out (fun W hW=>by go_simp;rfl) ?_
     simp only [Act.put,pq1,pq2,pq3]
     refine qQx rfl rfl (fun K hK=>?_)
     go_simp
     generalize hM:Array.size (World.heap wv)=M12
     generalize hwn:World.alloc wv _=wn
     have bn:Below wv.heap.size wv wn:=by rw [←hwn];exact qQh _ _
     have MS12:=Lh (show w8.heap.size≤M12 by rw [←hM];exact S.out.size)
     have R12:=Lh (show wn.heap[M12]?=some (.cells RgZ 45 (0,0)) by rw [←hwn];exact qQk _ _ _ hM.symm)
     try have RMM:=Lh (RMM.out.keep bn)
     try have AM12:=Lh (XS.out.ne hM)
     try have XS:=Lh (XS.out.keep bn)
     try have NM:=Lh (show M12≠M13 by have:=qQe R13.out;omega)
     try have R13:=Lh (qQb bn (qQe R13.out) R13.out)
     have S:=Lh (S.out.trans (bn.mono S.out.size))
     clear hM hwn bn
     obtain⟨wv,rfl⟩:∃wv:World,wv=wn:=⟨_,rfl⟩
     refine hK.out _ _ S.out ?_
     clear hK K
     refine qXp (qKn (M9:=M9) (M12:=M12) (M13:=M13) (hs:=RBC mq.1.mode mq.1.F mq.1.u A' n' c') (cs:=cs) (rs:=#[.slice B m k',.string (strB (mq.2.1.getD ([],[])).2)]) (ks:=ks) rfl rfl rfl rfl ⟨rfl,rfl,rfl⟩ ⟨rfl,rfl,rfl⟩ ⟨rfl,rfl,rfl⟩ ⟨rfl,rfl,rfl⟩ rfl rfl rfl rfl rfl rfl
      (qQb S.out (qQe RB.out) RB.out) R12.out R13.out qQK C4.out.symm (qQ3 _ _ _ _ _ _) qZR rfl (by simp [Value.oneCell']) KZ.out K4.out KO.out (by have:=MS12.out;have:=M98.out;omega) (by have:=MS13.out;have:=M98.out;omega) NM.out ?_)
     intro W1 W2 W3 g1 g2 g3 r9 r12 r13
     simp only [Act.put,pq1,pq2,pq3]
     go_wp2_with fail
     go_meet
     obtain⟨f1,f2,f3,f4,f5⟩:=fin9 S.out g1 g2 g3 M98.out MS12.out MS13.out XS.out AM12.out AM13.out
     exact⟨M12,M13,A',n',c',B,m,k',rfl,rfl,rfl,MS12.out,MS13.out,NM.out,r12,r13,r9,f1,XL.out.1,XL.out.2.1,f2,f3,XL.out.2.2.1,XL.out.2.2.2,f4,f5⟩
    ·
     refine qQx rfl rfl (fun K hK=>?_)
     go_simp
     generalize hM:Array.size (World.heap wv)=M12
     generalize hwn:World.alloc wv _=wn
     have bn:Below wv.heap.size wv wn:=by rw [←hwn];exact qQh _ _
     have MS12:=Lh (show w8.heap.size≤M12 by rw [←hM];exact S.out.size)
     have R12:=Lh (show wn.heap[M12]?=some (.cells RgZ 45 (0,0)) by rw [←hwn];exact qQk _ _ _ hM.symm)
     try have RMM:=Lh (RMM.out.keep bn)
     try have AM12:=Lh (XS.out.ne hM)
     try have XS:=Lh (XS.out.keep bn)
     try have NM:=Lh (show M12≠M13 by have:=qQe R13.out;omega)
     try have R13:=Lh (qQb bn (qQe R13.out) R13.out)
     have S:=Lh (S.out.trans (bn.mono S.out.size))
     clear hM hwn bn
     obtain⟨wv,rfl⟩:∃wv:World,wv=wn:=⟨_,rfl⟩
     refine hK.out _ _ S.out ?_
     clear hK K
     refine qQx rfl rfl (fun K hK=>?_)
     go_simp
     rw[CE.out,←EP.out]
     refine(qXa wv q0 (by rw [QE.out];exact KM.out) none 0 0 (by rw [QE.out];rfl) (kQh _) (by rw [QE.out];exact RdV.nil _ _) (by rintro a ⟨⟩) ep Am q cm zs Q1.out RMM.out HOK.out (by have:=Q12.out;omega) (by rw [QE.out];show l1.length≤2900;have:=NE.out;have:=N2.out;omega) (by rw [QE.out];show 0≤600000;omega) (by omega)).mono ?_
     rw[←CE.out,EP.out,←MQ.out]
     have LW:=Lh (show w8.heap.size≤wv.heap.size from S.out.size)
     try have LT12:=Lh (qQe R12.out)
     try have LT13:=Lh (qQe R13.out)
     rintro e wv ⟨A',n',c',B,m,k',rfl,hO⟩
     rw[←EA.out,←KQ.out,←KE.out]
     have S:=Lh (S.out.trans (hO.bel.mono S.out.size))
     try have R12:=Lh (qQb hO.bel (qQe R12.out) R12.out)
     try have R13:=Lh (qQb hO.bel (qQe R13.out) R13.out)
     have XS:=Lh (hO.s9 LW.out)
     have XL:=Lh (show mq.1.L.length=n'∧n'≤c'∧(mq.2.1.getD ([],[])).1.length=m∧m≤k' from⟨hO.ln,hO.cap,hO.xl,hO.xc⟩)
     try have AM12:=Lh (hO.ne LT12.out)
     try have AM13:=Lh (hO.ne LT13.out)
     clear hO
     refine hK.out _ _ S.out ?_
     clear hK K
     refine qQn rfl rfl S.out (fun W hW=>by go_simp;rfl) ?_
     simp only [Act.put,pq1,pq2,pq3]
     refine qQn rfl rfl S.out (fun W hW=>by go_simp;rfl) ?_
     simp only [Act.put,pq1,pq2,pq3]
     refine qQn rfl rfl S.out (fun W hW=>by go_simp;rfl) ?_
     simp only [Act.put,pq1,pq2,pq3]
     refine qQn rfl rfl S.out (fun W hW=>by go_simp;rfl) ?_
     simp only [Act.put,pq1,pq2,pq3]
     refine qQn rfl rfl S.out (fun W hW=>by go_simp;rfl) ?_
     simp only [Act.put,pq1,pq2,pq3]
     refine qXp (qKn (M9:=M9) (M12:=M12) (M13:=M13) (hs:=RBC mq.1.mode mq.1.F mq.1.u A' n' c') (cs:=cs) (rs:=#[.slice B m k',.string (strB (mq.2.1.getD ([],[])).2)]) (ks:=ks) rfl rfl rfl rfl ⟨rfl,rfl,rfl⟩ ⟨rfl,rfl,rfl⟩ ⟨rfl,rfl,rfl⟩ ⟨rfl,rfl,rfl⟩ rfl rfl rfl rfl rfl rfl
      (qQb S.out (qQe RB.out) RB.out) R12.out R13.out qQK C4.out.symm (qQ3 _ _ _ _ _ _) qZR rfl (by simp [Value.oneCell']) KZ.out K4.out KO.out (by have:=MS12.out;have:=M98.out;omega) (by have:=MS13.out;have:=M98.out;omega) NM.out ?_)
     intro W1 W2 W3 g1 g2 g3 r9 r12 r13
     simp only [Act.put,pq1,pq2,pq3]
     go_wp2_with fail
     go_meet
     obtain⟨f1,f2,f3,f4,f5⟩:=fin9 S.out g1 g2 g3 M98.out MS12.out MS13.out XS.out AM12.out AM13.out
     exact⟨M12,M13,A',n',c',B,m,k',rfl,rfl,rfl,MS12.out,MS13.out,NM.out,r12,r13,r9,f1,XL.out.1,XL.out.2.1,f2,f3,XL.out.2.2.1,XL.out.2.2.2,f4,f5⟩
  ·
   refine qQx rfl rfl (fun K hK=>?_)
   go_simp
   generalize hM:Array.size (World.heap wv)=M12
   generalize hwn:World.alloc wv _=wn
   have bn:Below wv.heap.size wv wn:=by rw [←hwn];exact qQh _ _
   have MS12:=Lh (show w8.heap.size≤M12 by rw [←hM];exact S.out.size)
   have R12:=Lh (show wn.heap[M12]?=some (.cells RgZ 45 (0,0)) by rw [←hwn];exact qQk _ _ _ hM.symm)
   try have RMM:=Lh (RMM.out.keep bn)
   try have AM12:=Lh (XS.out.ne hM)
   try have XS:=Lh (XS.out.keep bn)
   try have NM:=Lh (show M12≠M13 by have:=qQe R13.out;omega)
   try have R13:=Lh (qQb bn (qQe R13.out) R13.out)
   have S:=Lh (S.out.trans (bn.mono S.out.size))
   clear hM hwn bn
   obtain⟨wv,rfl⟩:∃wv:World,wv=wn:=⟨_,rfl⟩
   refine hK.out _ _ S.out ?_
   clear hK K
   refine qZh ?_ ?_
   ·
    refine qQx rfl rfl (fun K hK=>?_)
    go_simp
    refine(qW2 wv A2 q c2 zs Q1.out (RM8.out.keep S.out) (by have:=Q12.out;omega)).mono ?_
    rintro e wv ⟨Am,cm,rfl,hrm,hcm,_,hb⟩
    have S:=Lh (S.out.trans (hb.mono S.out.size))
    have RMM:=Lh hrm
    try have R12:=Lh (qQb hb (qQe R12.out) R12.out)
    try have R13:=Lh (qQb hb (qQe R13.out) R13.out)
    clear hrm hcm hb
    refine hK.out _ _ S.out ?_
    clear hK K
    refine qZh ?_ ?_
    ·
     refine qQx rfl rfl (fun K hK=>?_)
     go_simp
     rw[CE.out,←EP.out]
     refine(qXa wv q0 (by rw [QE.out];exact KM.out) none 0 0 (by rw [QE.out];rfl) (kQh _) (by rw [QE.out];exact RdV.nil _ _) (by rintro a ⟨⟩) ep Am q cm zs Q1.out RMM.out HOK.out (by have:=Q12.out;omega) (by rw [QE.out];show l1.length≤2900;have:=NE.out;have:=N2.out;omega) (by rw [QE.out];show 0≤600000;omega) (by omega)).mono ?_
     rw[←CE.out,EP.out,←MQ.out]
     have LW:=Lh (show w8.heap.size≤wv.heap.size from S.out.size)
     try have LT12:=Lh (qQe R12.out)
     try have LT13:=Lh (qQe R13.out)
     rintro e wv ⟨A',n',c',B,m,k',rfl,hO⟩
     rw[←EA.out,←KQ.out,←KE.out]
     have S:=Lh (S.out.trans (hO.bel.mono S.out.size))
     try have R12:=Lh (qQb hO.bel (qQe R12.out) R12.out)
     try have R13:=Lh (qQb hO.bel (qQe R13.out) R13.out)
     have XS:=Lh (hO.s9 LW.out)
     have XL:=Lh (show mq.1.L.length=n'∧n'≤c'∧(mq.2.1.getD ([],[])).1.length=m∧m≤k' from⟨hO.ln,hO.cap,hO.xl,hO.xc⟩)
     try have AM12:=Lh (hO.ne LT12.out)
     try have AM13:=Lh (hO.ne LT13.out)
     clear hO
     refine hK.out _ _ S.out ?_
     clear hK K
     refine qQn rfl rfl S.out (fun W hW=>by go_simp;rfl) ?_
     simp only [Act.put,pq1,pq2,pq3]
     refine qQn rfl rfl S.out (fun W hW=>by go_simp;rfl) ?_
     simp only [Act.put,pq1,pq2,pq3]
     refine qQn rfl rfl S.out (fun W hW=>by go_simp;rfl) ?_
     simp only [Act.put,pq1,pq2,pq3]
     refine qQn rfl rfl S.out (fun W hW=>by go_simp;rfl) ?_
     simp only [Act.put,pq1,pq2,pq3]
     refine qQn rfl rfl S.out (fun W hW=>by go_simp;rfl) ?_
     simp only [Act.put,pq1,pq2,pq3]
     refine qQx rfl rfl (fun K hK=>?_)
     go_simp
     generalize hM:Array.size (World.heap wv)=M13
     generalize hwn:World.alloc wv _=wn
     have bn:Below wv.heap.size wv wn:=by rw [←hwn];exact qQh _ _
     have MS13:=Lh (show w8.heap.size≤M13 by rw [←hM];exact S.out.size)
     have R13:=Lh (show wn.heap[M13]?=some (.cells (RowQ kysE) 47 (0,0)) by rw [←hwn];exact qQk _ _ _ hM.symm)
     try have RMM:=Lh (RMM.out.keep bn)
     try have AM13:=Lh (XS.out.ne hM)
     try have XS:=Lh (XS.out.keep bn)
     try have NM:=Lh (show M12≠M13 by have:=qQe R12.out;omega)
     try have R12:=Lh (qQb bn (qQe R12.out) R12.out)
     have S:=Lh (S.out.trans (bn.mono S.out.size))
     clear hM hwn bn
     obtain⟨wv,rfl⟩:∃wv:World,wv=wn:=⟨_,rfl⟩
     refine hK.out _ _ S.out ?_
     clear hK K
     refine qXp (qKn (M9:=M9) (M12:=M12) (M13:=M13) (hs:=RBC mq.1.mode mq.1.F mq.1.u A' n' c') (cs:=cs) (rs:=#[.slice B m k',.string (strB (mq.2.1.getD ([],[])).2)]) (ks:=ks) rfl rfl rfl rfl ⟨rfl,rfl,rfl⟩ ⟨rfl,rfl,rfl⟩ ⟨rfl,rfl,rfl⟩ ⟨rfl,rfl,rfl⟩ rfl rfl rfl rfl rfl rfl
      (qQb S.out (qQe RB.out) RB.out) R12.out R13.out qQK C4.out.symm (qQ3 _ _ _ _ _ _) qZR rfl (by simp [Value.oneCell']) KZ.out K4.out KO.out (by have:=MS12.out;have:=M98.out;omega) (by have:=MS13.out;have:=M98.out;omega) NM.out ?_)
     intro W1 W2 W3 g1 g2 g3 r9 r12 r13
     simp only [Act.put,pq1,pq2,pq3]
     go_wp2_with fail
     go_meet
     obtain⟨f1,f2,f3,f4,f5⟩:=fin9 S.out g1 g2 g3 M98.out MS12.out MS13.out XS.out AM12.out AM13.out
     exact⟨M12,M13,A',n',c',B,m,k',rfl,rfl,rfl,MS12.out,MS13.out,NM.out,r12,r13,r9,f1,XL.out.1,XL.out.2.1,f2,f3,XL.out.2.2.1,XL.out.2.2.2,f4,f5⟩
    ·
     refine qQx rfl rfl (fun K hK=>?_)
     go_simp
     generalize hM:Array.size (World.heap wv)=M13
     generalize hwn:World.alloc wv _=wn
     have bn:Below wv.heap.size wv wn:=by rw [←hwn];exact qQh _ _
     have MS13:=Lh (show w8.heap.size≤M13 by rw [←hM];exact S.out.size)
     have R13:=Lh (show wn.heap[M13]?=some (.cells (RowQ kysE) 47 (0,0)) by rw [←hwn];exact qQk _ _ _ hM.symm)
     try have RMM:=Lh (RMM.out.keep bn)
     try have AM13:=Lh (XS.out.ne hM)
     try have XS:=Lh (XS.out.keep bn)
     try have NM:=Lh (show M12≠M13 by have:=qQe R12.out;omega)
     try have R12:=Lh (qQb bn (qQe R12.out) R12.out)
     have S:=Lh (S.out.trans (bn.mono S.out.size))
     clear hM hwn bn
     obtain⟨wv,rfl⟩:∃wv:World,wv=wn:=⟨_,rfl⟩
     refine hK.out _ _ S.out ?_
     clear hK K
     refine qQx rfl rfl (fun K hK=>?_)
     go_simp
     rw[CE.out,←EP.out]
     refine(qXa wv q0 (by rw [QE.out];exact KM.out) none 0 0 (by rw [QE.out];rfl) (kQh _) (by rw [QE.out];exact RdV.nil _ _) (by rintro a ⟨⟩) ep Am q cm zs Q1.out RMM.out HOK.out (by have:=Q12.out;omega) (by rw [QE.out];show l1.length≤2900;have:=NE.out;have:=N2.out;omega) (by rw [QE.out];show 0≤600000;omega) (by omega)).mono ?_
     rw[←CE.out,EP.out,←MQ.out]
     have LW:=Lh (show w8.heap.size≤wv.heap.size from S.out.size)
     try have LT12:=Lh (qQe R12.out)
     try have LT13:=Lh (qQe R13.out)
     rintro e wv ⟨A',n',c',B,m,k',rfl,hO⟩
     rw[←EA.out,←KQ.out,←KE.out]
     have S:=Lh (S.out.trans (hO.bel.mono S.out.size))
     try have R12:=Lh (qQb hO.bel (qQe R12.out) R12.out)
     try have R13:=Lh (qQb hO.bel (qQe R13.out) R13.out)
     have XS:=Lh (hO.s9 LW.out)
     have XL:=Lh (show mq.1.L.length=n'∧n'≤c'∧(mq.2.1.getD ([],[])).1.length=m∧m≤k' from⟨hO.ln,hO.cap,hO.xl,hO.xc⟩)
     try have AM12:=Lh (hO.ne LT12.out)
     try have AM13:=Lh (hO.ne LT13.out)
     clear hO
     refine hK.out _ _ S.out ?_
     clear hK K
     refine qQn rfl rfl S.out (fun W hW=>by go_simp;rfl) ?_
     simp only [Act.put,pq1,pq2,pq3]
     refine qQn rfl rfl S.out (fun W hW=>by go_simp;rfl) ?_
     simp only [Act.put,pq1,pq2,pq3]
     refine qQn rfl rfl S.out (fun W hW=>by go_simp;rfl) ?_
     simp only [Act.put,pq1,pq2,pq3]
     refine qQn rfl rfl S.out (fun W hW=>by go_simp;rfl) ?_
     simp only [Act.put,pq1,pq2,pq3]
     refine qQn rfl rfl S.out (fun W hW=>by go_simp;rfl) ?_
     simp only [Act.put,pq1,pq2,pq3]
     refine qXp (qKn (M9:=M9) (M12:=M12) (M13:=M13) (hs:=RBC mq.1.mode mq.1.F mq.1.u A' n' c') (cs:=cs) (rs:=#[.slice B m k',.string (strB (mq.2.1.getD ([],[])).2)]) (ks:=ks) rfl rfl rfl rfl ⟨rfl,rfl,rfl⟩ ⟨rfl,rfl,rfl⟩ ⟨rfl,rfl,rfl⟩ ⟨rfl,rfl,rfl⟩ rfl rfl rfl rfl rfl rfl
      (qQb S.out (qQe RB.out) RB.out) R12.out R13.out qQK C4.out.symm (qQ3 _ _ _ _ _ _) qZR rfl (by simp [Value.oneCell']) KZ.out K4.out KO.out (by have:=MS12.out;have:=M98.out;omega) (by have:=MS13.out;have:=M98.out;omega) NM.out ?_)
     intro W1 W2 W3 g1 g2 g3 r9 r12 r13
     simp only [Act.put,pq1,pq2,pq3]
     go_wp2_with fail
     go_meet
     obtain⟨f1,f2,f3,f4,f5⟩:=fin9 S.out g1 g2 g3 M98.out MS12.out MS13.out XS.out AM12.out AM13.out
     exact⟨M12,M13,A',n',c',B,m,k',rfl,rfl,rfl,MS12.out,MS13.out,NM.out,r12,r13,r9,f1,XL.out.1,XL.out.2.1,f2,f3,XL.out.2.2.1,XL.out.2.2.2,f4,f5⟩
   ·
    refine qQx rfl rfl (fun K hK=>?_)
    go_simp
    generalize hM:Array.size (World.heap wv)=M13
    generalize hwn:World.alloc wv _=wn
    have bn:Below wv.heap.size wv wn:=by rw [←hwn];exact qQh _ _
    have MS13:=Lh (show w8.heap.size≤M13 by rw [←hM];exact S.out.size)
    have R13:=Lh (show wn.heap[M13]?=some (.cells (RowQ kysE) 47 (0,0)) by rw [←hwn];exact qQk _ _ _ hM.symm)
    try have RMM:=Lh (RMM.out.keep bn)
    try have AM13:=Lh (XS.out.ne hM)
    try have XS:=Lh (XS.out.keep bn)
    try have NM:=Lh (show M12≠M13 by have:=qQe R12.out;omega)
    try have R12:=Lh (qQb bn (qQe R12.out) R12.out)
    have S:=Lh (S.out.trans (bn.mono S.out.size))
    clear hM hwn bn
    obtain⟨wv,rfl⟩:∃wv:World,wv=wn:=⟨_,rfl⟩
    refine hK.out _ _ S.out ?_
    clear hK K
    refine qQx rfl rfl (fun K hK=>?_)
    go_simp
    refine(qW2 wv A2 q c2 zs Q1.out (RM8.out.keep S.out) (by have:=Q12.out;omega)).mono ?_
    rintro e wv ⟨Am,cm,rfl,hrm,hcm,_,hb⟩
    have S:=Lh (S.out.trans (hb.mono S.out.size))
    have RMM:=Lh hrm
    try have R12:=Lh (qQb hb (qQe R12.out) R12.out)
    try have R13:=Lh (qQb hb (qQe R13.out) R13.out)
    clear hrm hcm hb
    refine hK.out _ _ S.out ?_
    clear hK K
    refine qQx rfl rfl (fun K hK=>?_)
    go_simp
    rw[CE.out,←EP.out]
    refine(qXa wv q0 (by rw [QE.out];exact KM.out) none 0 0 (by rw [QE.out];rfl) (kQh _) (by rw [QE.out];exact RdV.nil _ _) (by rintro a ⟨⟩) ep Am q cm zs Q1.out RMM.out HOK.out (by have:=Q12.out;omega) (by rw [QE.out];show l1.length≤2900;have:=NE.out;have:=N2.out;omega) (by rw [QE.out];show 0≤600000;omega) (by omega)).mono ?_
    rw[←CE.out,EP.out,←MQ.out]
    have LW:=Lh (show w8.heap.size≤wv.heap.size from S.out.size)
    try have LT12:=Lh (qQe R12.out)
    try have LT13:=Lh (qQe R13.out)
    rintro e wv ⟨A',n',c',B,m,k',rfl,hO⟩
    rw[←EA.out,←KQ.out,←KE.out]
    have S:=Lh (S.out.trans (hO.bel.mono S.out.size))
    try have R12:=Lh (qQb hO.bel (qQe R12.out) R12.out)
    try have R13:=Lh (qQb hO.bel (qQe R13.out) R13.out)
    have XS:=Lh (hO.s9 LW.out)
    have XL:=Lh (show mq.1.L.length=n'∧n'≤c'∧(mq.2.1.getD ([],[])).1.length=m∧m≤k' from⟨hO.ln,hO.cap,hO.xl,hO.xc⟩)
    try have AM12:=Lh (hO.ne LT12.out)
    try have AM13:=Lh (hO.ne LT13.out)
    clear hO
    refine hK.out _ _ S.out ?_
    clear hK K
    refine qQn rfl rfl S.out (fun W hW=>by go_simp;rfl) ?_
    simp only [Act.put,pq1,pq2,pq3]
    refine qQn rfl rfl S.out (fun W hW=>by go_simp;rfl) ?_
    simp only [Act.put,pq1,pq2,pq3]
    refine qQn rfl rfl S.out (fun W hW=>by go_simp;rfl) ?_
    simp only [Act.put,pq1,pq2,pq3]
    refine qQn rfl rfl S.out (fun W hW=>by go_simp;rfl) ?_
    simp only [Act.put,pq1,pq2,pq3]
    refine qQn rfl rfl S.out (fun W hW=>by go_simp;rfl) ?_
    simp only [Act.put,pq1,pq2,pq3]
    refine qXp (qKn (M9:=M9) (M12:=M12) (M13:=M13) (hs:=RBC mq.1.mode mq.1.F mq.1.u A' n' c') (cs:=cs) (rs:=#[.slice B m k',.string (strB (mq.2.1.getD ([],[])).2)]) (ks:=ks) rfl rfl rfl rfl ⟨rfl,rfl,rfl⟩ ⟨rfl,rfl,rfl⟩ ⟨rfl,rfl,rfl⟩ ⟨rfl,rfl,rfl⟩ rfl rfl rfl rfl rfl rfl
     (qQb S.out (qQe RB.out) RB.out) R12.out R13.out qQK C4.out.symm (qQ3 _ _ _ _ _ _) qZR rfl (by simp [Value.oneCell']) KZ.out K4.out KO.out (by have:=MS12.out;have:=M98.out;omega) (by have:=MS13.out;have:=M98.out;omega) NM.out ?_)
    intro W1 W2 W3 g1 g2 g3 r9 r12 r13
    simp only [Act.put,pq1,pq2,pq3]
    go_wp2_with fail
    go_meet
    obtain⟨f1,f2,f3,f4,f5⟩:=fin9 S.out g1 g2 g3 M98.out MS12.out MS13.out XS.out AM12.out AM13.out
    exact⟨M12,M13,A',n',c',B,m,k',rfl,rfl,rfl,MS12.out,MS13.out,NM.out,r12,r13,r9,f1,XL.out.1,XL.out.2.1,f2,f3,XL.out.2.2.1,XL.out.2.2.2,f4,f5⟩
  ·
   refine qQx rfl rfl (fun K hK=>?_)
   go_simp
   generalize hM:Array.size (World.heap wv)=M13
   generalize hwn:World.alloc wv _=wn
   have bn:Below wv.heap.size wv wn:=by rw [←hwn];exact qQh _ _
   have MS13:=Lh (show w8.heap.size≤M13 by rw [←hM];exact S.out.size)
   have R13:=Lh (show wn.heap[M13]?=some (.cells (RowQ kysE) 47 (0,0)) by rw [←hwn];exact qQk _ _ _ hM.symm)
   try have RMM:=Lh (RMM.out.keep bn)
   try have AM13:=Lh (XS.out.ne hM)
   try have XS:=Lh (XS.out.keep bn)
   try have NM:=Lh (show M12≠M13 by have:=qQe R12.out;omega)
   try have R12:=Lh (qQb bn (qQe R12.out) R12.out)
   have S:=Lh (S.out.trans (bn.mono S.out.size))
   clear hM hwn bn
   obtain⟨wv,rfl⟩:∃wv:World,wv=wn:=⟨_,rfl⟩
   refine hK.out _ _ S.out ?_
   clear hK K
   refine qZh ?_ ?_
   ·
    refine qQx rfl rfl (fun K hK=>?_)
    go_simp
    refine(qW2 wv A2 q c2 zs Q1.out (RM8.out.keep S.out) (by have:=Q12.out;omega)).mono ?_
    rintro e wv ⟨Am,cm,rfl,hrm,hcm,_,hb⟩
    have S:=Lh (S.out.trans (hb.mono S.out.size))
    have RMM:=Lh hrm
    try have R12:=Lh (qQb hb (qQe R12.out) R12.out)
    try have R13:=Lh (qQb hb (qQe R13.out) R13.out)
    clear hrm hcm hb
    refine hK.out _ _ S.out ?_
    clear hK K
    refine qZh ?_ ?_
    ·
     refine qQx rfl rfl (fun K hK=>?_)
     go_simp
     rw[CE.out,←EP.out]
     refine(qXa wv q0 (by rw [QE.out];exact KM.out) none 0 0 (by rw [QE.out];rfl) (kQh _) (by rw [QE.out];exact RdV.nil _ _) (by rintro a ⟨⟩) ep Am q cm zs Q1.out RMM.out HOK.out (by have:=Q12.out;omega) (by rw [QE.out];show l1.length≤2900;have:=NE.out;have:=N2.out;omega) (by rw [QE.out];show 0≤600000;omega) (by omega)).mono ?_
     rw[←CE.out,EP.out,←MQ.out]
     have LW:=Lh (show w8.heap.size≤wv.heap.size from S.out.size)
     try have LT12:=Lh (qQe R12.out)
     try have LT13:=Lh (qQe R13.out)
     rintro e wv ⟨A',n',c',B,m,k',rfl,hO⟩
     rw[←EA.out,←KQ.out,←KE.out]
     have S:=Lh (S.out.trans (hO.bel.mono S.out.size))
     try have R12:=Lh (qQb hO.bel (qQe R12.out) R12.out)
     try have R13:=Lh (qQb hO.bel (qQe R13.out) R13.out)
     have XS:=Lh (hO.s9 LW.out)
     have XL:=Lh (show mq.1.L.length=n'∧n'≤c'∧(mq.2.1.getD ([],[])).1.length=m∧m≤k' from⟨hO.ln,hO.cap,hO.xl,hO.xc⟩)
     try have AM12:=Lh (hO.ne LT12.out)
     try have AM13:=Lh (hO.ne LT13.out)
     clear hO
     refine hK.out _ _ S.out ?_
     clear hK K
     refine qQn rfl rfl S.out (fun W hW=>by go_simp;rfl) ?_
     simp only [Act.put,pq1,pq2,pq3]
     refine qQn rfl rfl S.out (fun W hW=>by go_simp;rfl) ?_
     simp only [Act.put,pq1,pq2,pq3]
     refine qQn rfl rfl S.out (fun W hW=>by go_simp;rfl) ?_
     simp only [Act.put,pq1,pq2,pq3]
     refine qQn rfl rfl S.out (fun W hW=>by go_simp;rfl) ?_
     simp only [Act.put,pq1,pq2,pq3]
     refine qQn rfl rfl S.out (fun W hW=>by go_simp;rfl) ?_
     simp only [Act.put,pq1,pq2,pq3]
     refine qQx rfl rfl (fun K hK=>?_)
     go_simp
     generalize hM:Array.size (World.heap wv)=M12
     generalize hwn:World.alloc wv _=wn
     have bn:Below wv.heap.size wv wn:=by rw [←hwn];exact qQh _ _
     have MS12:=Lh (show w8.heap.size≤M12 by rw [←hM];exact S.out.size)
     have R12:=Lh (show wn.heap[M12]?=some (.cells RgZ 45 (0,0)) by rw [←hwn];exact qQk _ _ _ hM.symm)
     try have RMM:=Lh (RMM.out.keep bn)
     try have AM12:=Lh (XS.out.ne hM)
     try have XS:=Lh (XS.out.keep bn)
     try have NM:=Lh (show M12≠M13 by have:=qQe R13.out;omega)
     try have R13:=Lh (qQb bn (qQe R13.out) R13.out)
     have S:=Lh (S.out.trans (bn.mono S.out.size))
     clear hM hwn bn
     obtain⟨wv,rfl⟩:∃wv:World,wv=wn:=⟨_,rfl⟩
     refine hK.out _ _ S.out ?_
     clear hK K
     refine qXp (qKn (M9:=M9) (M12:=M12) (M13:=M13) (hs:=RBC mq.1.mode mq.1.F mq.1.u A' n' c') (cs:=cs) (rs:=#[.slice B m k',.string (strB (mq.2.1.getD ([],[])).2)]) (ks:=ks) rfl rfl rfl rfl ⟨rfl,rfl,rfl⟩ ⟨rfl,rfl,rfl⟩ ⟨rfl,rfl,rfl⟩ ⟨rfl,rfl,rfl⟩ rfl rfl rfl rfl rfl rfl
      (qQb S.out (qQe RB.out) RB.out) R12.out R13.out qQK C4.out.symm (qQ3 _ _ _ _ _ _) qZR rfl (by simp [Value.oneCell']) KZ.out K4.out KO.out (by have:=MS12.out;have:=M98.out;omega) (by have:=MS13.out;have:=M98.out;omega) NM.out ?_)
     intro W1 W2 W3 g1 g2 g3 r9 r12 r13
     simp only [Act.put,pq1,pq2,pq3]
     go_wp2_with fail
     go_meet
     obtain⟨f1,f2,f3,f4,f5⟩:=fin9 S.out g1 g2 g3 M98.out MS12.out MS13.out XS.out AM12.out AM13.out
     exact⟨M12,M13,A',n',c',B,m,k',rfl,rfl,rfl,MS12.out,MS13.out,NM.out,r12,r13,r9,f1,XL.out.1,XL.out.2.1,f2,f3,XL.out.2.2.1,XL.out.2.2.2,f4,f5⟩
    ·
     refine qQx rfl rfl (fun K hK=>?_)
     go_simp
     generalize hM:Array.size (World.heap wv)=M12
     generalize hwn:World.alloc wv _=wn
     have bn:Below wv.heap.size wv wn:=by rw [←hwn];exact qQh _ _
     have MS12:=Lh (show w8.heap.size≤M12 by rw [←hM];exact S.out.size)
     have R12:=Lh (show wn.heap[M12]?=some (.cells RgZ 45 (0,0)) by rw [←hwn];exact qQk _ _ _ hM.symm)
     try have RMM:=Lh (RMM.out.keep bn)
     try have AM12:=Lh (XS.out.ne hM)
     try have XS:=Lh (XS.out.keep bn)
     try have NM:=Lh (show M12≠M13 by have:=qQe R13.out;omega)
     try have R13:=Lh (qQb bn (qQe R13.out) R13.out)
     have S:=Lh (S.out.trans (bn.mono S.out.size))
     clear hM hwn bn
     obtain⟨wv,rfl⟩:∃wv:World,wv=wn:=⟨_,rfl⟩
     refine hK.out _ _ S.out ?_
     clear hK K
     refine qQx rfl rfl (fun K hK=>?_)
     go_simp
     rw[CE.out,←EP.out]
     refine(qXa wv q0 (by rw [QE.out];exact KM.out) none 0 0 (by rw [QE.out];rfl) (kQh _) (by rw [QE.out];exact RdV.nil _ _) (by rintro a ⟨⟩) ep Am q cm zs Q1.out RMM.out HOK.out (by have:=Q12.out;omega) (by rw [QE.out];show l1.length≤2900;have:=NE.out;have:=N2.out;omega) (by rw [QE.out];show 0≤600000;omega) (by omega)).mono ?_
     rw[←CE.out,EP.out,←MQ.out]
     have LW:=Lh (show w8.heap.size≤wv.heap.size from S.out.size)
     try have LT12:=Lh (qQe R12.out)
     try have LT13:=Lh (qQe R13.out)
     rintro e wv ⟨A',n',c',B,m,k',rfl,hO⟩
     rw[←EA.out,←KQ.out,←KE.out]
     have S:=Lh (S.out.trans (hO.bel.mono S.out.size))
     try have R12:=Lh (qQb hO.bel (qQe R12.out) R12.out)
     try have R13:=Lh (qQb hO.bel (qQe R13.out) R13.out)
     have XS:=Lh (hO.s9 LW.out)
     have XL:=Lh (show mq.1.L.length=n'∧n'≤c'∧(mq.2.1.getD ([],[])).1.length=m∧m≤k' from⟨hO.ln,hO.cap,hO.xl,hO.xc⟩)
     try have AM12:=Lh (hO.ne LT12.out)
     try have AM13:=Lh (hO.ne LT13.out)
     clear hO
     refine hK.out _ _ S.out ?_
     clear hK K
     refine qQn rfl rfl S.out (fun W hW=>by go_simp;rfl) ?_
     simp only [Act.put,pq1,pq2,pq3]
     refine qQn rfl rfl S.out (fun W hW=>by go_simp;rfl) ?_
     simp only [Act.put,pq1,pq2,pq3]
     refine qQn rfl rfl S.out (fun W hW=>by go_simp;rfl) ?_
     simp only [Act.put,pq1,pq2,pq3]
     refine qQn rfl rfl S.out (fun W hW=>by go_simp;rfl) ?_
     simp only [Act.put,pq1,pq2,pq3]
     refine qQn rfl rfl S.out (fun W hW=>by go_simp;rfl) ?_
     simp only [Act.put,pq1,pq2,pq3]
     refine qXp (qKn (M9:=M9) (M12:=M12) (M13:=M13) (hs:=RBC mq.1.mode mq.1.F mq.1.u A' n' c') (cs:=cs) (rs:=#[.slice B m k',.string (strB (mq.2.1.getD ([],[])).2)]) (ks:=ks) rfl rfl rfl rfl ⟨rfl,rfl,rfl⟩ ⟨rfl,rfl,rfl⟩ ⟨rfl,rfl,rfl⟩ ⟨rfl,rfl,rfl⟩ rfl rfl rfl rfl rfl rfl
      (qQb S.out (qQe RB.out) RB.out) R12.out R13.out qQK C4.out.symm (qQ3 _ _ _ _ _ _) qZR rfl (by simp [Value.oneCell']) KZ.out K4.out KO.out (by have:=MS12.out;have:=M98.out;omega) (by have:=MS13.out;have:=M98.out;omega) NM.out ?_)
     intro W1 W2 W3 g1 g2 g3 r9 r12 r13
     simp only [Act.put,pq1,pq2,pq3]
     go_wp2_with fail
     go_meet
     obtain⟨f1,f2,f3,f4,f5⟩:=fin9 S.out g1 g2 g3 M98.out MS12.out MS13.out XS.out AM12.out AM13.out
     exact⟨M12,M13,A',n',c',B,m,k',rfl,rfl,rfl,MS12.out,MS13.out,NM.out,r12,r13,r9,f1,XL.out.1,XL.out.2.1,f2,f3,XL.out.2.2.1,XL.out.2.2.2,f4,f5⟩
   ·
    refine qQx rfl rfl (fun K hK=>?_)
    go_simp
    generalize hM:Array.size (World.heap wv)=M12
    generalize hwn:World.alloc wv _=wn
    have bn:Below wv.heap.size wv wn:=by rw [←hwn];exact qQh _ _
    have MS12:=Lh (show w8.heap.size≤M12 by rw [←hM];exact S.out.size)
    have R12:=Lh (show wn.heap[M12]?=some (.cells RgZ 45 (0,0)) by rw [←hwn];exact qQk _ _ _ hM.symm)
    try have RMM:=Lh (RMM.out.keep bn)
    try have AM12:=Lh (XS.out.ne hM)
    try have XS:=Lh (XS.out.keep bn)
    try have NM:=Lh (show M12≠M13 by have:=qQe R13.out;omega)
    try have R13:=Lh (qQb bn (qQe R13.out) R13.out)
    have S:=Lh (S.out.trans (bn.mono S.out.size))
    clear hM hwn bn
    obtain⟨wv,rfl⟩:∃wv:World,wv=wn:=⟨_,rfl⟩
    refine hK.out _ _ S.out ?_
    clear hK K
    refine qQx rfl rfl (fun K hK=>?_)
    go_simp
    refine(qW2 wv A2 q c2 zs Q1.out (RM8.out.keep S.out) (by have:=Q12.out;omega)).mono ?_
    rintro e wv ⟨Am,cm,rfl,hrm,hcm,_,hb⟩
    have S:=Lh (S.out.trans (hb.mono S.out.size))
    have RMM:=Lh hrm
    try have R12:=Lh (qQb hb (qQe R12.out) R12.out)
    try have R13:=Lh (qQb hb (qQe R13.out) R13.out)
    clear hrm hcm hb
    refine hK.out _ _ S.out ?_
    clear hK K
    refine qQx rfl rfl (fun K hK=>?_)
    go_simp
    rw[CE.out,←EP.out]
    refine(qXa wv q0 (by rw [QE.out];exact KM.out) none 0 0 (by rw [QE.out];rfl) (kQh _) (by rw [QE.out];exact RdV.nil _ _) (by rintro a ⟨⟩) ep Am q cm zs Q1.out RMM.out HOK.out (by have:=Q12.out;omega) (by rw [QE.out];show l1.length≤2900;have:=NE.out;have:=N2.out;omega) (by rw [QE.out];show 0≤600000;omega) (by omega)).mono ?_
    rw[←CE.out,EP.out,←MQ.out]
    have LW:=Lh (show w8.heap.size≤wv.heap.size from S.out.size)
    try have LT12:=Lh (qQe R12.out)
    try have LT13:=Lh (qQe R13.out)
    rintro e wv ⟨A',n',c',B,m,k',rfl,hO⟩
    rw[←EA.out,←KQ.out,←KE.out]
    have S:=Lh (S.out.trans (hO.bel.mono S.out.size))
    try have R12:=Lh (qQb hO.bel (qQe R12.out) R12.out)
    try have R13:=Lh (qQb hO.bel (qQe R13.out) R13.out)
    have XS:=Lh (hO.s9 LW.out)
    have XL:=Lh (show mq.1.L.length=n'∧n'≤c'∧(mq.2.1.getD ([],[])).1.length=m∧m≤k' from⟨hO.ln,hO.cap,hO.xl,hO.xc⟩)
    try have AM12:=Lh (hO.ne LT12.out)
    try have AM13:=Lh (hO.ne LT13.out)
    clear hO
    refine hK.out _ _ S.out ?_
    clear hK K
    refine qQn rfl rfl S.out (fun W hW=>by go_simp;rfl) ?_
    simp only [Act.put,pq1,pq2,pq3]
    refine qQn rfl rfl S.out (fun W hW=>by go_simp;rfl) ?_
    simp only [Act.put,pq1,pq2,pq3]
    refine qQn rfl rfl S.out (fun W hW=>by go_simp;rfl) ?_
    simp only [Act.put,pq1,pq2,pq3]
    refine qQn rfl rfl S.out (fun W hW=>by go_simp;rfl) ?_
    simp only [Act.put,pq1,pq2,pq3]
    refine qQn rfl rfl S.out (fun W hW=>by go_simp;rfl) ?_
    simp only [Act.put,pq1,pq2,pq3]
    refine qXp (qKn (M9:=M9) (M12:=M12) (M13:=M13) (hs:=RBC mq.1.mode mq.1.F mq.1.u A' n' c') (cs:=cs) (rs:=#[.slice B m k',.string (strB (mq.2.1.getD ([],[])).2)]) (ks:=ks) rfl rfl rfl rfl ⟨rfl,rfl,rfl⟩ ⟨rfl,rfl,rfl⟩ ⟨rfl,rfl,rfl⟩ ⟨rfl,rfl,rfl⟩ rfl rfl rfl rfl rfl rfl
     (qQb S.out (qQe RB.out) RB.out) R12.out R13.out qQK C4.out.symm (qQ3 _ _ _ _ _ _) qZR rfl (by simp [Value.oneCell']) KZ.out K4.out KO.out (by have:=MS12.out;have:=M98.out;omega) (by have:=MS13.out;have:=M98.out;omega) NM.out ?_)
    intro W1 W2 W3 g1 g2 g3 r9 r12 r13
    simp only [Act.put,pq1,pq2,pq3]
    go_wp2_with fail
    go_meet
    obtain⟨f1,f2,f3,f4,f5⟩:=fin9 S.out g1 g2 g3 M98.out MS12.out MS13.out XS.out AM12.out AM13.out
    exact⟨M12,M13,A',n',c',B,m,k',rfl,rfl,rfl,MS12.out,MS13.out,NM.out,r12,r13,r9,f1,XL.out.1,XL.out.2.1,f2,f3,XL.out.2.2.1,XL.out.2.2.2,f4,f5⟩
 case rest=>
 obtain⟨M12,M13,A',n',c',B,m,k',rfl,rfl,rfl,hs12,hs13,hnm,h12,h13,h9,hra,hln,hcp,hoa,hrb,hlm,hmk,hob,hgr⟩:=hcut
 have P9:=Lh (P8.out.ref hgr h9 hra hln hcp (fun a e=>⟨.inl (kQk P8.out.lov (hoa a e).1),(hoa a e).2⟩))
 have G9:=Lh hgr
 have R12:=Lh h12
 have R13:=Lh h13
 have XB:=Lh hrb
 have XM:=Lh hlm
 have XK:=Lh hmk
 have XH:=Lh (show L≤M10∧L≤M12∧L≤M13∧∀a,B=some a→L≤a.block from⟨M10L.out,kQk P8.out.lov hs12,kQk P8.out.lov hs13,fun a e=>kQk P8.out.lov (hob a e).1⟩)
 have RA:=Lh (qQd hgr (fun e=>by have:=Option.some.inj e;have:=P8.out.m9;have:=M10L.out;omega) RA.out)
 have KA:=Lh (qQd hgr (fun e=>by have:=Option.some.inj e;have:=P8.out.m9;have:=M10L.out;omega) KA.out)
 have RG8:=Lh (show ∀xs d,mq.2.1=some (xs,d)→RgB L wc (.agg ra) xs d from fun xs d h=>(((AN.out.good xs d h).2.2.1.keep BA.out).low (Nat.le_of_eq LE.out)).grown hgr (by have:=P8.out.m9;omega))
 clear hs12 hs13 hnm h12 h13 h9 hra hln hcp hoa hrb hlm hmk hob hgr P8 P7 BA RB CE CZ C4 RM8
 obtain⟨cz,hcz⟩:∃cz,cz=chk zs:=⟨_,rfl⟩
 have CH:=Lh (show ∀W:World,Below w.heap.size w W→Calls Tryz.prog 10 #[.slice A2 q c2] W fun e w'=>e=.returned (.int .i64 cz)∧Below W.heap.size W w' from fun W hW=>by
  rw[←Q1.out,hcz]
  exact qVz W A2 c2 zs (H0.out.keep hW) (by rw [Q1.out];exact NC.out.2) (by rw [Q1.out];have:=Q12.out;omega))
 have CZ:=Lh hcz
 clear hcz
 go_wp2_with fail
 refine(CH.out wc P9.out.bel).mono ?_
 rintro e wd ⟨rfl,hb⟩
 have D1:=Lh hb
 clear hb
 go_wp2_with fail
 refine(qW2 wd A2 q c2 zs Q1.out ((H0.out.keep P9.out.bel).keep D1.out) (by have:=Q12.out;omega)).mono ?_
 rintro e we ⟨Am,cm,rfl,hrm,hcm,_,hb⟩
 have D2:=Lh (D1.out.trans (hb.mono D1.out.size))
 have RMM:=Lh hrm
 clear hrm hcm hb
 go_wp2_with fail
 refine(qVL we Am q cm zs Q1.out RMM.out (by have:=Q12.out;omega)).mono ?_
 rw[←CZ.out]
 rintro e wf ⟨rfl,hb⟩
 have D3:=Lh (D2.out.trans (hb.mono D2.out.size))
 clear hb D1 D2 RMM CH
 have P9:=Lh (P9.out.keep D3.out)
 have RA:=Lh (qQb D3.out (qQe RA.out) RA.out)
 have KA:=Lh (qQb D3.out (qQe KA.out) KA.out)
 rcases hmr:mq.2.1 with _|⟨xs,d⟩
 ·as_aux_lemma=>
   have hea:=(AN.out.bad hmr).1
   rw[←EA.out]at hea
   have hD:(ea != 0)=true:=by rcases hea with h|h<;>rw [h]<;>rfl
   have RA:=Lh (show wf.heap[M10]?=some (.cells RingZ 35 (0,0)) by rw [←(AN.out.bad hmr).2];exact RA.out)
   have KA:=Lh (show wf.heap[M10+1]?=some (.cells (RowK kysZ).toArray 40 (0,0)) by rw [←YB.out hmr];exact KA.out)
   have c0:wf.cell? ⟨M10,0,none⟩=some (.slice none 0 0):=qQg RA.out 0 rfl
   clear hea hmr
   go_upto_region 13 with fail
   refine wp_region_list ?_
   simp only [kQf]
   refine qQa (by rfl) (by go_simp;rfl) ?_
   simp only [Act.put,pq1,pq2,pq3]
   refine qQa (by rfl) (by go_simp;rfl) ?_
   simp only [Act.put,pq1,pq2,pq3]
   refine qQa (by rfl) (by go_simp;rfl) ?_
   simp only [Act.put,pq1,pq2,pq3]
   refine qQa (by rfl) (by go_simp;rfl) ?_
   simp only [Act.put,pq1,pq2,pq3]
   refine qQa (by rfl) (by go_simp;rfl) ?_
   simp only [Act.put,pq1,pq2,pq3]
   refine qQl (by rfl) (qQj 40 (.tmp 11) rfl (M10+1) rfl 40 (RowK kysZ).toArray (0,0) _ KA.out Tryz.underlying40 rfl (qQO _ qZr)) ?_
   simp only [Act.put,pq1,pq2,pq3]
   refine qQl (by rfl) (qVl rfl _) ?_
   simp only [Act.put,pq1,pq2,pq3]
   refine qQl (by rfl) (qVn _ (.tmp 94) (.tmp 95) rfl kysZ qZr rfl rfl _) ?_
   simp only [Act.put,pq1,pq2,pq3]
   go_wp2_with fail
   refine(one_true wf).mono ?_
   rintro e wg ⟨rfl,hb⟩
   have BF:=Lh (P9.out.bel.trans (hb.mono P9.out.bel.size))
   clear hb
   go_wp2_with fail
   go_ret
   exact⟨rfl,BF.out⟩
 have MR:=Lh hmr
 obtain⟨hz0,hck,hrg,hgx,h8,hxl,hdl⟩:=AN.out.good xs d hmr
 have hea:ea=0:=EA.out.trans hz0
 rw[hmr]at R12 XB XM
 have hyk:ya=qJC q0 ep:=YG.out (by rw [hmr];simp)
 have hkq:kq=qJC q0 ep:=by rw [KQ.out,if_pos hea]
 have R:=Lh (show RxW L M10 M12 M13 ra ya B m k' xs d wf from⟨RA.out,KA.out,qQb D3.out (qQe R12.out) R12.out,by have:=qQb D3.out (qQe R13.out) R13.out;rw [KE.out,hkq,←hyk]at this;exact this,(RG8.out xs d hmr).keep D3.out,XB.out.keep D3.out,XH.out⟩)
 have CK:=Lh hck
 have GX:=Lh (show GoodX s1 (dirE ya zs) d by rw [hyk];exact hgx)
 have X8:=Lh h8
 have XL:=Lh hxl
 have DL:=Lh hdl
 have M8:=Lh (show m=8 by rw [←XM.out];exact h8)
 have YE:=Lh hyk
 subst hea
 clear hmr hz0 hck hrg hgx h8 hxl hdl hyk hkq RA KA R12 R13 XB XM XH RG8 KE KZ KO K4 KQ YB YG D3 G9
 obtain⟨rx,hrx⟩:∃rx:Array Value,rx=#[.slice B m k',.string (strB d)]:=⟨_,rfl⟩
 have RXE:=Lh hrx
 have RXZ:=Lh (show(Tryz.prog.info? 45).map (·.size)=some rx.size by rw [hrx];exact qZR)
 have RX:=Lh (show wf.heap[M12]?=some (.cells rx 45 (0,0)) by rw [hrx];exact R.out.rx)
 have YZ:=Lh (qQO ya OYA.out)
 have QZ:=Lh (qZH ya)
 have Z:=Lh (show Below wf.heap.size wf wf.drew from(Below.refl _ _).drew)
 clear hrx
 go_upto_region 14 with fail
 refine qQu (fun W=>Below wf.heap.size wf W) [(true,0),(true,1),(false,2),(true,3),(true,4),(true,5),(true,7),(false,6),(true,8),(true,9)] (by kernel_rfl) (by kernel_rfl) (fun _ _ d _ _ h=>by cases d<;>exact h) ?_
 simp only [kQl,kQm,kQd,kQg,kQe,kQo]
 generalize World.drew wf=wg at *
 refine qQc (by rfl) Z.out (fun W hW=>qQj 35 (.tmp 10) rfl M10 rfl 35 ra (0,0) _ (qQb hW (qQe R.out.fa) R.out.fa) Tryz.underlying35 rfl IRA.out) ?_
 simp only [Act.put,pq1,pq2,pq3]
 refine qQc (by rfl) Z.out (fun W hW=>qQj 45 (.tmp 12) rfl M12 rfl 45 rx (0,0) _ (qQb hW (qQe RX.out) RX.out) Tryz.underlying45 rfl RXZ.out) ?_
 simp only [Act.put,pq1,pq2,pq3]
 refine qQE (by rfl) (fun K hK=>?_)
 go_simp
 rw[RXE.out]
 refine(like_any wg L (.agg ra) xs d (R.out.rg.keep Z.out) B m k' (R.out.sx.keep Z.out) (by rw [X8.out,M8.out]) (by have:=M8.out;omega) (fun x hx=>by rw [XL.out x hx];omega) (by rw [DL.out];omega)).mono ?_
 rw[←RXE.out]
 rintro e wh ⟨rfl,hb⟩
 have Z:=Lh (Z.out.trans (hb.mono Z.out.size))
 clear hb
 refine hK.out _ _ Z.out ?_
 clear hK K
 refine qQc (by rfl) Z.out (fun W hW=>by go_simp;rfl) ?_
 simp only [Act.put,pq1,pq2,pq3]
 refine qQc (by rfl) Z.out (fun W hW=>by go_simp;rfl) ?_
 simp only [Act.put,pq1,pq2,pq3]
 refine qQc (by rfl) Z.out (fun W hW=>qQj 40 (.tmp 11) rfl (M10+1) rfl 40 (RowK ya).toArray (0,0) _ (qQb hW (qQe R.out.ky) R.out.ky) Tryz.underlying40 rfl YZ.out) ?_
 simp only [Act.put,pq1,pq2,pq3]
 refine qQc (by rfl) Z.out (fun W hW=>qQj 47 (.tmp 13) rfl M13 rfl 47 (RowQ ya) (0,0) _ (qQb hW (qQe R.out.kq) R.out.kq) Tryz.underlying47 rfl QZ.out) ?_
 simp only [Act.put,pq1,pq2,pq3]
 refine qQE (by rfl) (fun K hK=>?_)
 go_simp
 refine(keys_any wh ya OYA.out).mono ?_
 rintro e wi ⟨rfl,hb⟩
 have Z:=Lh (Z.out.trans (hb.mono Z.out.size))
 clear hb
 refine hK.out _ _ Z.out ?_
 clear hK K
 refine qQc (by rfl) Z.out (fun W hW=>qJt _ (.tmp 107) (.tmp 108) rfl ya rfl rfl W) ?_
 simp only [Act.put,pq1,pq2,pq3]
 refine qQc (by rfl) Z.out (fun W hW=>by go_simp;rfl) ?_
 simp only [Act.put,pq1,pq2,pq3]
 refine qQG ?_
 have P14:=Lh (P9.out.keep Z.out)
 have R14:=Lh (R.out.keep Z.out)
 have KA:=Lh R14.out.ky
 clear Z R P9 RX
 have RL1:=Lh AN.out.rel
 have S1B:=Lh (show s1.u≤9300∧s1.n≤9∧s1.m.length≤9∧s1.F=l1∧(s1.mode=0∨s1.mode=1) by
  have h1:=AN.out.u;have h2:=AN.out.n;have h3:=AN.out.m;have h4:=AN.out.fe;have h5:=AN.out.mode
  rw[SE.out]at h1 h2 h3 h4 h5
  exact⟨by have h1:s1.u≤0+9300:=h1;omega,by have h2:s1.n≤0+9:=h2;omega,by have h3:s1.m.length≤0+9:=h3;omega,h4,by have h5:s1.mode=k:=h5;rw [h5];exact KM.out⟩)
 have Q1B:=Lh (show(mq.1.mode=0∨mq.1.mode=1)∧mq.1.F=l1∧mq.1.u≤9300∧n'≤9 by
  have h1:=S1B.out
  have h2:=P14.out.ln
  exact⟨by rw [←RL1.out.mode];exact h1.2.2.2.2,by rw [←RL1.out.F];exact h1.2.2.2.1,by rw [←RL1.out.u];exact h1.1,by rw [←h2,←RL1.out.n];exact h1.2.1⟩)
 have TS1:=Lh (show ∀p∈s1.m,s1.mode=1→p.2.text.length≤1000 from AN.out.ts (by rw [SE.out];intro p hp;cases hp))
 obtain⟨ag,hag⟩:∃ag,ag=qZ3 ya zs mq.1:=⟨_,rfl⟩
 have AG:=Lh hag
 have AGN:=Lh (show Calls Tryz.prog 15 #[.pointer (some ⟨g,0,none⟩),.agg (RowK ya).toArray,.slice A2 q c2] wi (AgainP w3 g S D b L ya zs s1 wi) by
  rw[←Q1.out]
  have h1:=S1B.out
  have h2:=P14.out
  have h3:=h2.m9
  have h4:=h2.w39
  exact again_any w3 g S D b L s1 wi h2.box h1.2.2.2.2 ya OYA.out A2 c2 zs (H0.out.keep h2.bel) (by rw [Q1.out];exact NC.out.2) (by rw [Q1.out];have:=Q12.out;omega) (fun h a e=>by have:=L0.out h a e;have:=h2.b3.size;have:=h2.box.hg;have:=h2.box.hS;have:=h2.box.hb;omega) (by omega) (by rw [h1.2.2.2.1];have:=NE.out;have:=N2.out;omega) (by omega) (by omega) h2.lov (by omega) (by omega))
 clear hag
 go_upto_region 16 with fail
 refine wp_region_list ?_
 simp only [kQf]
 refine qQa (by rfl) (by go_simp;rfl) ?_
 simp only [Act.put,pq1,pq2,pq3]
 refine qQa (by rfl) (qQj 40 (.tmp 11) rfl (M10+1) rfl 40 (RowK ya).toArray (0,0) _ KA.out Tryz.underlying40 rfl YZ.out) ?_
 simp only [Act.put,pq1,pq2,pq3]
 refine qQa (by rfl) (by go_simp;rfl) ?_
 simp only [Act.put,pq1,pq2,pq3]
 refine qQs (by rfl) (fun K hK=>?_)
 go_simp
 refine AGN.out.mono ?_
 clear AGN
 rintro e wj hap
 obtain⟨rc,s2,rfl,hans⟩:=again_ans OYA.out HOK.out hap P14.out.box RL1.out
 rw[←AG.out]at hans ⊢
 have A2N:=Lh hans
 have P16:=Lh (P14.out.said hans.box hans.fr)
 have R16:=Lh (R14.out.said hans.fr ⟨LT.out.1,LT.out.2.1,LT.out.2.2.2⟩)
 have GX:=Lh (hans.old _ _ GX.out)
 have LWI:=Lh (show L≤wi.heap.size from P14.out.lov)
 clear hans hap P14 R14 KA
 obtain⟨eb,heb⟩:∃eb,eb=ag.2.2:=⟨_,rfl⟩
 rw[←heb]
 have EB:=Lh heb
 clear heb
 refine hK.out _ _ ?_
 clear hK K
 have IRC:=Lh (show(Tryz.prog.info? 35).map (·.size)=some rc.size by rw [A2N.out.sz];exact qZi)
 go_upto_region 17 with (refine qQp rfl rfl 35 (.tmp 15) (.tmp 116) rfl rc rfl rfl IRC.out (by rw [A2N.out.sz];rfl) A2N.out.one ?_)
 generalize hM15:Array.size (World.heap wj)=M15
 generalize hwk:World.alloc wj _=wk
 have bk:Below wj.heap.size wj wk:=by rw [←hwk];exact qQh _ _
 have R15:=Lh (show wk.heap[M15]?=some (.cells rc 35 (0,0)) by rw [←hwk];exact qQk _ _ _ hM15.symm)
 have P17:=Lh (P16.out.keep bk)
 have R17:=Lh (R16.out.keep bk)
 have L15:=Lh (show L≤M15 by rw [←hM15];exact P16.out.lov)
 have RGC:=Lh (show ∀xs d,ag.2.1=some (xs,d)→RgB L wk (.agg rc) xs d from fun xs d h=>((A2N.out.good xs d h).2.2.1.keep bk).low LWI.out)
 clear hM15 hwk bk P16 R16
 obtain⟨cs,hcs⟩:∃cs,cs=RBC mq.1.mode mq.1.F mq.1.u A' n' c':=⟨_,rfl⟩
 have CE:=Lh hcs
 have CZ2:=Lh (show(Tryz.prog.info? 32).map (·.size)=some cs.size by rw [hcs];exact qQK)
 have C4:=Lh (show(4:Nat)=cs.size by rw [hcs];rfl)
 have RB:=Lh (show wk.heap[M9]?=some (.cells cs 32 (0,0)) by rw [hcs];exact P17.out.row)
 have RM8:=Lh (H0.out.keep P17.out.bel)
 have M98:=Lh (qQe RB.out)
 clear hcs
 go_cut [17,18] (fun v17 v18 wy=>∃M17 A3 n3 c3 B3 m3 k3,v17=.pointer (some ⟨M17,0,none⟩)∧v18=.int .i64 eb∧wk.heap.size≤M17∧wy.heap[M17]?=some (.cells #[.slice B3 m3 k3,.string (strB (ag.2.1.getD ([],[])).2)] 45 (0,0))∧
  wy.heap[M9]?=some (.cells (RBC ag.1.mode ag.1.F ag.1.u A3 n3 c3) 32 (0,0))∧ag.1.L.length=n3∧n3≤c3∧(ag.2.1.getD ([],[])).1.length=m3∧RdV wy A3 (EC ag.1.L)∧(∀a,A3=some a→(L≤a.block∨A'=some a)∧a.block<wy.heap.size)∧RdV wy B3 (SX (ag.2.1.getD ([],[])).1)∧wk.grownBy wy (some M9))
 case first=>
  as_aux_lemma=>
  have S:=Lh (show Below wk.heap.size wk wk.drew from(Below.refl _ _).drew)
  refine qVh (fun W=>Below wk.heap.size wk W) 10 [10,11,12] (.q 0 (.q 1 (.q 2 (.two 3 (.two 4 (.q 5 (.q 6 (.q 7 (.q 8 (.t 9 .done))))) 9 (.t 4 (.q 5 (.q 6 (.q 7 (.q 8 .done)))))) 9 (.t 3 (.t 4 (.q 5 (.q 6 (.q 7 (.q 8 .done)))))))))) (by kernel_rfl) (by kernel_rfl) (fun _ _ d _ _ h=>by cases d<;>exact h) ?_
  generalize World.drew wk=wv at *
  refine qQn rfl rfl S.out (fun W hW=>qQj 32 (.tmp 9) rfl M9 rfl 32 cs (0,0) _ (qQb hW (qQe RB.out) RB.out) Tryz.underlying32 rfl CZ2.out) ?_
  simp only [Act.put,pq1,pq2,pq3]
  refine qQn rfl rfl S.out (fun W hW=>qQj 47 (.tmp 13) rfl M13 rfl 47 (RowQ ya) (0,0) _ (qQb hW (qQe R17.out.kq) R17.out.kq) Tryz.underlying47 rfl QZ.out) ?_
  simp only [Act.put,pq1,pq2,pq3]
  refine qQn rfl rfl S.out (fun W hW=>by go_simp;rfl) ?_
  simp only [Act.put,pq1,pq2,pq3]
  refine qZh ?_ ?_
  ·
   refine qQx rfl rfl (fun K hK=>?_)
   go_simp
   refine(qW2 wv A2 q c2 zs Q1.out (RM8.out.keep S.out) (by have:=Q12.out;omega)).mono ?_
   rintro e wv ⟨Am,cm,rfl,hrm,hcm,_,hb⟩
   have S:=Lh (S.out.trans (hb.mono S.out.size))
   have RMM:=Lh hrm
   try have RN:=Lh (qQb hb (qQe RN.out) RN.out)
   clear hrm hcm hb
   refine hK.out _ _ S.out ?_
   clear hK K
   refine qZh ?_ ?_
   ·
    refine qQx rfl rfl (fun K hK=>?_)
    go_simp
    rw[CE.out]
    refine(qVO wv mq.1 Q1B.out.1 A' n' c' P17.out.ln P17.out.cap (P17.out.rd.keep S.out) (fun a e=>kQb (P17.out.off a e).2.2.2.2 S.out.size) ya OYA.out Am q cm zs Q1.out RMM.out HOK.out (by have:=Q12.out;omega) (by rw [Q1B.out.2.1];have:=NE.out;have:=N2.out;omega) (by have:=Q1B.out.2.2.1;omega) (by have:=Q1B.out.2.2.2;omega)).mono ?_
    rw[←CE.out,←AG.out]
    have LW:=Lh (show wk.heap.size≤wv.heap.size from S.out.size)
    try have LT17:=Lh (qQe RN.out)
    rintro e wv ⟨A3,n3,c3,B3,m3,k3,rfl,hO⟩
    rw[←EB.out]
    have S:=Lh (S.out.trans (hO.bel.mono S.out.size))
    try have RN:=Lh (qQb hO.bel (qQe RN.out) RN.out)
    have XA:=Lh (show RdV wv A3 (EC ag.1.L)from hO.rd)
    have XB:=Lh (show RdV wv B3 (SX (ag.2.1.getD ([],[])).1)from hO.xs)
    have XLL:=Lh (show ag.1.L.length=n3∧n3≤c3∧(ag.2.1.getD ([],[])).1.length=m3 from⟨hO.ln,hO.cap,hO.xl⟩)
    have XO:=Lh (show(∀a,A3=some a→((wk.heap.size≤a.block∨A'=some a)∧a.block<wv.heap.size))∧∀a,B3=some a→wk.heap.size≤a.block∧a.block<wv.heap.size from
     ⟨fun a e=>(hO.off a e).elim (fun h=>⟨.inl (kQk LW.out h.1),h.2⟩) (fun h=>⟨.inr h,kQb (P17.out.off a h).2.2.2.2 S.out.size⟩),fun a e=>⟨kQk LW.out (hO.xo a e).1,(hO.xo a e).2⟩⟩)
    try have AM:=Lh (show(∀a,A3=some a→a.block≠M17)∧∀a,B3=some a→a.block≠M17 from
     ⟨fun a e=>(hO.off a e).elim (fun h=>by have:=LT17.out;omega) (fun h=>by have:=(P17.out.off a h).2.2.2.2;have:=MS.out;omega),fun a e=>by have:=(hO.xo a e).1;have:=LT17.out;omega⟩)
    clear hO
    refine hK.out _ _ S.out ?_
    clear hK K
    refine qQn rfl rfl S.out (fun W hW=>by go_simp;rfl) ?_
    simp only [Act.put,pq1,pq2,pq3]
    refine qQn rfl rfl S.out (fun W hW=>by go_simp;rfl) ?_
    simp only [Act.put,pq1,pq2,pq3]
    refine qQn rfl rfl S.out (fun W hW=>by go_simp;rfl) ?_
    simp only [Act.put,pq1,pq2,pq3]
    refine qQn rfl rfl S.out (fun W hW=>by go_simp;rfl) ?_
    simp only [Act.put,pq1,pq2,pq3]
    refine qQx rfl rfl (fun K hK=>?_)
    go_simp
    generalize hM:Array.size (World.heap wv)=M17
    generalize hwn:World.alloc wv _=wn
    have bn:Below wv.heap.size wv wn:=by rw [←hwn];exact qQh _ _
    have MS:=Lh (show wk.heap.size≤M17 by rw [←hM];exact S.out.size)
    have RN:=Lh (show wn.heap[M17]?=some (.cells RgZ 45 (0,0)) by rw [←hwn];exact qQk _ _ _ hM.symm)
    try have RMM:=Lh (RMM.out.keep bn)
    try have XA:=Lh (XA.out.keep bn)
    try have XB:=Lh (XB.out.keep bn)
    try have AM:=Lh (show(∀a,A3=some a→a.block≠M17)∧∀a,B3=some a→a.block≠M17 from⟨fun a e=>by have:=(XO.out.1 a e).2;omega,fun a e=>by have:=(XO.out.2 a e).2;omega⟩)
    try have XO:=Lh (show(∀a,A3=some a→((wk.heap.size≤a.block∨A'=some a)∧a.block<wn.heap.size))∧∀a,B3=some a→wk.heap.size≤a.block∧a.block<wn.heap.size from⟨fun a e=>⟨(XO.out.1 a e).1,kQb (XO.out.1 a e).2 bn.size⟩,fun a e=>⟨(XO.out.2 a e).1,kQb (XO.out.2 a e).2 bn.size⟩⟩)
    have S:=Lh (S.out.trans (bn.mono S.out.size))
    clear hM hwn bn
    obtain⟨wv,rfl⟩:∃wv:World,wv=wn:=⟨_,rfl⟩
    refine hK.out _ _ S.out ?_
    clear hK K
    refine qXp (tail17 (M9:=M9) (M17:=M17) (hs:=RBC ag.1.mode ag.1.F ag.1.u A3 n3 c3) (cs:=cs) (rs:=#[.slice B3 m3 k3,.string (strB (ag.2.1.getD ([],[])).2)]) rfl rfl rfl ⟨rfl,rfl,rfl⟩ ⟨rfl,rfl,rfl⟩ ⟨rfl,rfl,rfl⟩ rfl rfl rfl rfl
     (qQb S.out (qQe RB.out) RB.out) RN.out qQK C4.out.symm (qQ3 _ _ _ _ _ _) qZR rfl (by simp [Value.oneCell']) (by have:=MS.out;have:=M98.out;omega) ?_)
    intro W1 W2 g1 g2 r9 r17
    simp only [Act.put,pq1,pq2,pq3]
    go_wp2_with fail
    go_meet
    have h9:=fun a e=>(P17.out.off a e).2.2.2.1
    have h98:=M98.out
    have hms:=MS.out
    refine⟨M17,A3,n3,c3,B3,m3,k3,rfl,rfl,MS.out,r17,r9,XLL.out.1,XLL.out.2.1,XLL.out.2.2,(XA.out.grown g1 ?_).grown g2 ?_,fun a e=>⟨(XO.out.1 a e).1.imp_left (kQk P17.out.lov),kQb (XO.out.1 a e).2 (kQk g1.size g2.size)⟩,(XB.out.grown g1 ?_).grown g2 ?_,qJG (w:=wk) ⟨g1.os.trans S.out.os,g1.tape.trans S.out.tape,g1.output.trans S.out.output,kQk S.out.size g1.size,fun i hi hr=>(g1.block i (kQb hi S.out.size) hr).trans (S.out.block i hi)⟩ g2 hms⟩
    ·rintro g ⟨⟩ a e
     rcases (XO.out.1 a e).1 with h|h
     ·omega
     ·exact h9 a h
    ·rintro g ⟨⟩ a e;exact AM.out.1 a e
    ·rintro g ⟨⟩ a e;have:=(XO.out.2 a e).1;omega
    ·rintro g ⟨⟩ a e;exact AM.out.2 a e
   ·
    refine qQx rfl rfl (fun K hK=>?_)
    go_simp
    generalize hM:Array.size (World.heap wv)=M17
    generalize hwn:World.alloc wv _=wn
    have bn:Below wv.heap.size wv wn:=by rw [←hwn];exact qQh _ _
    have MS:=Lh (show wk.heap.size≤M17 by rw [←hM];exact S.out.size)
    have RN:=Lh (show wn.heap[M17]?=some (.cells RgZ 45 (0,0)) by rw [←hwn];exact qQk _ _ _ hM.symm)
    try have RMM:=Lh (RMM.out.keep bn)
    try have XA:=Lh (XA.out.keep bn)
    try have XB:=Lh (XB.out.keep bn)
    try have AM:=Lh (show(∀a,A3=some a→a.block≠M17)∧∀a,B3=some a→a.block≠M17 from⟨fun a e=>by have:=(XO.out.1 a e).2;omega,fun a e=>by have:=(XO.out.2 a e).2;omega⟩)
    try have XO:=Lh (show(∀a,A3=some a→((wk.heap.size≤a.block∨A'=some a)∧a.block<wn.heap.size))∧∀a,B3=some a→wk.heap.size≤a.block∧a.block<wn.heap.size from⟨fun a e=>⟨(XO.out.1 a e).1,kQb (XO.out.1 a e).2 bn.size⟩,fun a e=>⟨(XO.out.2 a e).1,kQb (XO.out.2 a e).2 bn.size⟩⟩)
    have S:=Lh (S.out.trans (bn.mono S.out.size))
    clear hM hwn bn
    obtain⟨wv,rfl⟩:∃wv:World,wv=wn:=⟨_,rfl⟩
    refine hK.out _ _ S.out ?_
    clear hK K
    refine qQx rfl rfl (fun K hK=>?_)
    go_simp
    rw[CE.out]
    refine(qVO wv mq.1 Q1B.out.1 A' n' c' P17.out.ln P17.out.cap (P17.out.rd.keep S.out) (fun a e=>kQb (P17.out.off a e).2.2.2.2 S.out.size) ya OYA.out Am q cm zs Q1.out RMM.out HOK.out (by have:=Q12.out;omega) (by rw [Q1B.out.2.1];have:=NE.out;have:=N2.out;omega) (by have:=Q1B.out.2.2.1;omega) (by have:=Q1B.out.2.2.2;omega)).mono ?_
    rw[←CE.out,←AG.out]
    have LW:=Lh (show wk.heap.size≤wv.heap.size from S.out.size)
    try have LT17:=Lh (qQe RN.out)
    rintro e wv ⟨A3,n3,c3,B3,m3,k3,rfl,hO⟩
    rw[←EB.out]
    have S:=Lh (S.out.trans (hO.bel.mono S.out.size))
    try have RN:=Lh (qQb hO.bel (qQe RN.out) RN.out)
    have XA:=Lh (show RdV wv A3 (EC ag.1.L)from hO.rd)
    have XB:=Lh (show RdV wv B3 (SX (ag.2.1.getD ([],[])).1)from hO.xs)
    have XLL:=Lh (show ag.1.L.length=n3∧n3≤c3∧(ag.2.1.getD ([],[])).1.length=m3 from⟨hO.ln,hO.cap,hO.xl⟩)
    have XO:=Lh (show(∀a,A3=some a→((wk.heap.size≤a.block∨A'=some a)∧a.block<wv.heap.size))∧∀a,B3=some a→wk.heap.size≤a.block∧a.block<wv.heap.size from
     ⟨fun a e=>(hO.off a e).elim (fun h=>⟨.inl (kQk LW.out h.1),h.2⟩) (fun h=>⟨.inr h,kQb (P17.out.off a h).2.2.2.2 S.out.size⟩),fun a e=>⟨kQk LW.out (hO.xo a e).1,(hO.xo a e).2⟩⟩)
    try have AM:=Lh (show(∀a,A3=some a→a.block≠M17)∧∀a,B3=some a→a.block≠M17 from
     ⟨fun a e=>(hO.off a e).elim (fun h=>by have:=LT17.out;omega) (fun h=>by have:=(P17.out.off a h).2.2.2.2;have:=MS.out;omega),fun a e=>by have:=(hO.xo a e).1;have:=LT17.out;omega⟩)
    clear hO
    refine hK.out _ _ S.out ?_
    clear hK K
    refine qQn rfl rfl S.out (fun W hW=>by go_simp;rfl) ?_
    simp only [Act.put,pq1,pq2,pq3]
    refine qQn rfl rfl S.out (fun W hW=>by go_simp;rfl) ?_
    simp only [Act.put,pq1,pq2,pq3]
    refine qQn rfl rfl S.out (fun W hW=>by go_simp;rfl) ?_
    simp only [Act.put,pq1,pq2,pq3]
    refine qQn rfl rfl S.out (fun W hW=>by go_simp;rfl) ?_
    simp only [Act.put,pq1,pq2,pq3]
    refine qXp (tail17 (M9:=M9) (M17:=M17) (hs:=RBC ag.1.mode ag.1.F ag.1.u A3 n3 c3) (cs:=cs) (rs:=#[.slice B3 m3 k3,.string (strB (ag.2.1.getD ([],[])).2)]) rfl rfl rfl ⟨rfl,rfl,rfl⟩ ⟨rfl,rfl,rfl⟩ ⟨rfl,rfl,rfl⟩ rfl rfl rfl rfl
     (qQb S.out (qQe RB.out) RB.out) RN.out qQK C4.out.symm (qQ3 _ _ _ _ _ _) qZR rfl (by simp [Value.oneCell']) (by have:=MS.out;have:=M98.out;omega) ?_)
    intro W1 W2 g1 g2 r9 r17
    simp only [Act.put,pq1,pq2,pq3]
    go_wp2_with fail
    go_meet
    have h9:=fun a e=>(P17.out.off a e).2.2.2.1
    have h98:=M98.out
    have hms:=MS.out
    refine⟨M17,A3,n3,c3,B3,m3,k3,rfl,rfl,MS.out,r17,r9,XLL.out.1,XLL.out.2.1,XLL.out.2.2,(XA.out.grown g1 ?_).grown g2 ?_,fun a e=>⟨(XO.out.1 a e).1.imp_left (kQk P17.out.lov),kQb (XO.out.1 a e).2 (kQk g1.size g2.size)⟩,(XB.out.grown g1 ?_).grown g2 ?_,qJG (w:=wk) ⟨g1.os.trans S.out.os,g1.tape.trans S.out.tape,g1.output.trans S.out.output,kQk S.out.size g1.size,fun i hi hr=>(g1.block i (kQb hi S.out.size) hr).trans (S.out.block i hi)⟩ g2 hms⟩
    ·rintro g ⟨⟩ a e
     rcases (XO.out.1 a e).1 with h|h
     ·omega
     ·exact h9 a h
    ·rintro g ⟨⟩ a e;exact AM.out.1 a e
    ·rintro g ⟨⟩ a e;have:=(XO.out.2 a e).1;omega
    ·rintro g ⟨⟩ a e;exact AM.out.2 a e
  ·
   refine qQx rfl rfl (fun K hK=>?_)
   go_simp
   generalize hM:Array.size (World.heap wv)=M17
   generalize hwn:World.alloc wv _=wn
   have bn:Below wv.heap.size wv wn:=by rw [←hwn];exact qQh _ _
   have MS:=Lh (show wk.heap.size≤M17 by rw [←hM];exact S.out.size)
   have RN:=Lh (show wn.heap[M17]?=some (.cells RgZ 45 (0,0)) by rw [←hwn];exact qQk _ _ _ hM.symm)
   try have RMM:=Lh (RMM.out.keep bn)
   try have XA:=Lh (XA.out.keep bn)
   try have XB:=Lh (XB.out.keep bn)
   try have AM:=Lh (show(∀a,A3=some a→a.block≠M17)∧∀a,B3=some a→a.block≠M17 from⟨fun a e=>by have:=(XO.out.1 a e).2;omega,fun a e=>by have:=(XO.out.2 a e).2;omega⟩)
   try have XO:=Lh (show(∀a,A3=some a→((wk.heap.size≤a.block∨A'=some a)∧a.block<wn.heap.size))∧∀a,B3=some a→wk.heap.size≤a.block∧a.block<wn.heap.size from⟨fun a e=>⟨(XO.out.1 a e).1,kQb (XO.out.1 a e).2 bn.size⟩,fun a e=>⟨(XO.out.2 a e).1,kQb (XO.out.2 a e).2 bn.size⟩⟩)
   have S:=Lh (S.out.trans (bn.mono S.out.size))
   clear hM hwn bn
   obtain⟨wv,rfl⟩:∃wv:World,wv=wn:=⟨_,rfl⟩
   refine hK.out _ _ S.out ?_
   clear hK K
   refine qQx rfl rfl (fun K hK=>?_)
   go_simp
   refine(qW2 wv A2 q c2 zs Q1.out (RM8.out.keep S.out) (by have:=Q12.out;omega)).mono ?_
   rintro e wv ⟨Am,cm,rfl,hrm,hcm,_,hb⟩
   have S:=Lh (S.out.trans (hb.mono S.out.size))
   have RMM:=Lh hrm
   try have RN:=Lh (qQb hb (qQe RN.out) RN.out)
   clear hrm hcm hb
   refine hK.out _ _ S.out ?_
   clear hK K
   refine qQx rfl rfl (fun K hK=>?_)
   go_simp
   rw[CE.out]
   refine(qVO wv mq.1 Q1B.out.1 A' n' c' P17.out.ln P17.out.cap (P17.out.rd.keep S.out) (fun a e=>kQb (P17.out.off a e).2.2.2.2 S.out.size) ya OYA.out Am q cm zs Q1.out RMM.out HOK.out (by have:=Q12.out;omega) (by rw [Q1B.out.2.1];have:=NE.out;have:=N2.out;omega) (by have:=Q1B.out.2.2.1;omega) (by have:=Q1B.out.2.2.2;omega)).mono ?_
   rw[←CE.out,←AG.out]
   have LW:=Lh (show wk.heap.size≤wv.heap.size from S.out.size)
   try have LT17:=Lh (qQe RN.out)
   rintro e wv ⟨A3,n3,c3,B3,m3,k3,rfl,hO⟩
   rw[←EB.out]
   have S:=Lh (S.out.trans (hO.bel.mono S.out.size))
   try have RN:=Lh (qQb hO.bel (qQe RN.out) RN.out)
   have XA:=Lh (show RdV wv A3 (EC ag.1.L)from hO.rd)
   have XB:=Lh (show RdV wv B3 (SX (ag.2.1.getD ([],[])).1)from hO.xs)
   have XLL:=Lh (show ag.1.L.length=n3∧n3≤c3∧(ag.2.1.getD ([],[])).1.length=m3 from⟨hO.ln,hO.cap,hO.xl⟩)
   have XO:=Lh (show(∀a,A3=some a→((wk.heap.size≤a.block∨A'=some a)∧a.block<wv.heap.size))∧∀a,B3=some a→wk.heap.size≤a.block∧a.block<wv.heap.size from
    ⟨fun a e=>(hO.off a e).elim (fun h=>⟨.inl (kQk LW.out h.1),h.2⟩) (fun h=>⟨.inr h,kQb (P17.out.off a h).2.2.2.2 S.out.size⟩),fun a e=>⟨kQk LW.out (hO.xo a e).1,(hO.xo a e).2⟩⟩)
   try have AM:=Lh (show(∀a,A3=some a→a.block≠M17)∧∀a,B3=some a→a.block≠M17 from
    ⟨fun a e=>(hO.off a e).elim (fun h=>by have:=LT17.out;omega) (fun h=>by have:=(P17.out.off a h).2.2.2.2;have:=MS.out;omega),fun a e=>by have:=(hO.xo a e).1;have:=LT17.out;omega⟩)
   clear hO
   refine hK.out _ _ S.out ?_
   clear hK K
   refine qQn rfl rfl S.out (fun W hW=>by go_simp;rfl) ?_
   simp only [Act.put,pq1,pq2,pq3]
   refine qQn rfl rfl S.out (fun W hW=>by go_simp;rfl) ?_
   simp only [Act.put,pq1,pq2,pq3]
   refine qQn rfl rfl S.out (fun W hW=>by go_simp;rfl) ?_
   simp only [Act.put,pq1,pq2,pq3]
   refine qQn rfl rfl S.out (fun W hW=>by go_simp;rfl) ?_
   simp only [Act.put,pq1,pq2,pq3]
   refine qXp (tail17 (M9:=M9) (M17:=M17) (hs:=RBC ag.1.mode ag.1.F ag.1.u A3 n3 c3) (cs:=cs) (rs:=#[.slice B3 m3 k3,.string (strB (ag.2.1.getD ([],[])).2)]) rfl rfl rfl ⟨rfl,rfl,rfl⟩ ⟨rfl,rfl,rfl⟩ ⟨rfl,rfl,rfl⟩ rfl rfl rfl rfl
    (qQb S.out (qQe RB.out) RB.out) RN.out qQK C4.out.symm (qQ3 _ _ _ _ _ _) qZR rfl (by simp [Value.oneCell']) (by have:=MS.out;have:=M98.out;omega) ?_)
   intro W1 W2 g1 g2 r9 r17
   simp only [Act.put,pq1,pq2,pq3]
   go_wp2_with fail
   go_meet
   have h9:=fun a e=>(P17.out.off a e).2.2.2.1
   have h98:=M98.out
   have hms:=MS.out
   refine⟨M17,A3,n3,c3,B3,m3,k3,rfl,rfl,MS.out,r17,r9,XLL.out.1,XLL.out.2.1,XLL.out.2.2,(XA.out.grown g1 ?_).grown g2 ?_,fun a e=>⟨(XO.out.1 a e).1.imp_left (kQk P17.out.lov),kQb (XO.out.1 a e).2 (kQk g1.size g2.size)⟩,(XB.out.grown g1 ?_).grown g2 ?_,qJG (w:=wk) ⟨g1.os.trans S.out.os,g1.tape.trans S.out.tape,g1.output.trans S.out.output,kQk S.out.size g1.size,fun i hi hr=>(g1.block i (kQb hi S.out.size) hr).trans (S.out.block i hi)⟩ g2 hms⟩
   ·rintro g ⟨⟩ a e
    rcases (XO.out.1 a e).1 with h|h
    ·omega
    ·exact h9 a h
   ·rintro g ⟨⟩ a e;exact AM.out.1 a e
   ·rintro g ⟨⟩ a e;have:=(XO.out.2 a e).1;omega
   ·rintro g ⟨⟩ a e;exact AM.out.2 a e
 case rest=>
 obtain⟨M17,A3,n3,c3,B3,m3,k3,rfl,rfl,hs17,h17,h9,hln,hcp,hlm,hra,hoa,hrb,hgr⟩:=hcut
 have P18:=Lh (P17.out.ref hgr h9 hra hln hcp hoa)
 have R18:=Lh (R17.out.ref hgr (by have:=P17.out.m9;omega))
 have R15:=Lh (qQd hgr (fun e=>by have:=Option.some.inj e;have:=P17.out.m9;have:=L15.out;omega) R15.out)
 have RGC:=Lh (show ∀xs d,ag.2.1=some (xs,d)→RgB L wc (.agg rc) xs d from fun xs d h=>(RGC.out xs d h).grown hgr (by have:=P17.out.m9;omega))
 have H17:=Lh h17
 have XB:=Lh hrb
 have XM:=Lh hlm
 clear hs17 h17 h9 hln hcp hlm hra hoa hrb hgr P17 R17 RB CE CZ2 C4 RM8 M98
 go_upto_region 18 with fail
 go_cut [139] (fun v wy=>v=.bool false∧Below wc.heap.size wc wy)
 case first=>
  as_aux_lemma=>
  rcases har:ag.2.1 with _|⟨xs2,d2⟩
  ·have heb:=(A2N.out.bad har).1
   rw[←EB.out]at heb
   have hD:(eb==0)=false:=by rcases heb with h|h<;>rw [h]<;>rfl
   go_wp2_with fail
   go_meet
   exact⟨rfl,Below.refl _ _⟩
  ·obtain⟨hz0,_,_,_,h8,hxl,hdl⟩:=A2N.out.good xs2 d2 har
   have heb:eb=0:=EB.out.trans hz0
   subst heb
   have RG2:=Lh (RGC.out xs2 d2 har)
   rw[har]at H17 XB XM
   obtain⟨rz,hrz⟩:∃rz:Array Value,rz=#[.slice B3 m3 k3,.string (strB d2)]:=⟨_,rfl⟩
   have RZE:=Lh hrz
   have RZZ:=Lh (show(Tryz.prog.info? 45).map (·.size)=some rz.size by rw [hrz];exact qZR)
   have RZ:=Lh (show wc.heap[M17]?=some (.cells rz 45 (0,0)) by rw [hrz];exact H17.out)
   have HL:=Lh (And.intro hxl hdl)
   have M38:=Lh (show xs2.length=m3∧m3≤1000 by have h:=XM.out;exact⟨h,by rw [←h];show xs2.length≤1000;omega⟩)
   clear hrz hz0 h8 hxl hdl har
   refine wp_region_list ?_
   simp only [kQf]
   refine qQa (by rfl) (by go_simp;rfl) ?_
   simp only [Act.put,pq1,pq2,pq3]
   refine qQa (by rfl) (by go_simp;rfl) ?_
   simp only [Act.put,pq1,pq2,pq3]
   refine qQa (by rfl) (by go_simp;rfl) ?_
   simp only [Act.put,pq1,pq2,pq3]
   refine qQa (by rfl) (by go_simp;rfl) ?_
   simp only [Act.put,pq1,pq2,pq3]
   refine qQl (by rfl) (by go_simp;rfl) ?_
   simp only [Act.put,pq1,pq2,pq3]
   refine qQl (by rfl) (by go_simp;rfl) ?_
   simp only [Act.put,pq1,pq2,pq3]
   refine qQl (by rfl) (by go_simp;rfl) ?_
   simp only [Act.put,pq1,pq2,pq3]
   refine qQl (by rfl) (qQj 35 (.tmp 15) rfl M15 rfl 35 rc (0,0) _ R15.out Tryz.underlying35 rfl IRC.out) ?_
   simp only [Act.put,pq1,pq2,pq3]
   refine qQl (by rfl) (qQj 45 (.tmp 17) rfl M17 rfl 45 rz (0,0) _ RZ.out Tryz.underlying45 rfl RZZ.out) ?_
   simp only [Act.put,pq1,pq2,pq3]
   go_wp2_with fail
   rw[RZE.out]
   refine(like_any wc L (.agg rc) xs2 d2 RG2.out B3 m3 k3 XB.out M38.out.1 M38.out.2 (fun x hx=>by rw [HL.out.1 x hx];omega) (by rw [HL.out.2];omega)).mono ?_
   rw[←RZE.out]
   rintro e wy ⟨rfl,hb⟩
   have BY:=Lh hb
   clear hb
   go_wp2_with fail
   go_meet
   exact⟨rfl,BY.out⟩
 case rest=>
 obtain⟨rfl,hbc⟩:=hcut
 obtain⟨wd,rfl⟩:∃wd:World,wd=wc:=⟨_,rfl⟩
 have P19:=Lh (P18.out.keep hbc)
 have R19:=Lh (R18.out.keep hbc)
 clear hbc P18 R18 R15 RGC H17 XB XM
 have KR:=Lh (rangeK_k (y:=ya) (b:=M10+1) (o:=0) (qQ5 R19.out.ky))
 have K32:=Lh (qWv OYA.out.1)
 go_upto_region 20 with fail
 refine wp_region_list ?_
 simp only [kQf]
 refine qQa (by rfl) (qKq (.const (.int .u8 1)) rfl 1 rfl _) ?_
 simp only [Act.put,pq1,pq2,pq3]
 refine qQa (by rfl) (run_zkey rfl _) ?_
 simp only [Act.put,pq1,pq2,pq3]
 refine qQa (by rfl) (by go_simp;rfl) ?_
 simp only [Act.put,pq1,pq2,pq3]
 refine qQa (by rfl) (qQI 38 (.tmp 142) rfl (M10+1) 1 rfl (B8 ya.k) (by have h1:=KR.out;rwa [Nat.zero_add]at h1) Tryz.underlying38 rfl K32.out) ?_
 simp only [Act.put,pq1,pq2,pq3]
 refine qQs (by rfl) (fun K hK=>?_)
 refine wp_key3 (.tmp 140) (.tmp 141) (.tmp 143) ya.k OYA.out.1 rfl rfl rfl rfl ?_
 obtain⟨T0,hT0⟩:∃T0:List (List UInt8),T0=[keyK 1,z32,ya.k]:=⟨_,rfl⟩
 rw[←hT0]
 have T32:=Lh (show ∀x∈T0,x.length=32 by rw [hT0];intro x hx;simp only [List.mem_cons,List.mem_nil_iff,or_false]at hx;rcases hx with rfl|rfl|rfl;exact rfl;exact rfl;exact OYA.out.1)
 have T3:=Lh (show T0.length=3 by rw [hT0];rfl)
 generalize hN:Array.size (World.heap wd)=N5
 generalize hwn:World.alloc wd _=we
 have be:Below wd.heap.size wd we:=by rw [←hwn];exact qQh _ _
 have O:=Lh (show OwnK we wd.heap.size 38 32 (.slice (some ⟨N5,0,none⟩) 3 3) 3 (KC T0) by rw [←hwn,←hN];exact ownK_keys T3.out (by omega) T32.out (kQh _))
 have LWD:=Lh (show w.heap.size≤wd.heap.size from P19.out.bel.size)
 have ESZ:=Lh (show wd.heap.size≤we.heap.size from be.size)
 clear hT0 hN hwn KR
 refine hK.out _ _ ?_
 clear hK K
 simp only [Act.put,pq1,pq2,pq3]
 have BE:=Lh be
 clear be
 go_wp2_with fail
 go_loopw [19,20] (fun v i wr=>∃j:Nat,j≤q∧i=.int .i64 (j:Int)∧OwnK wr wd.heap.size 38 32 v (3+j) (KC (T0++(zs.take j).map (·.k)))∧Below wd.heap.size wd wr) (fun _ i _=>q-(intOf i).toNat)
 case atStart=>exact⟨0,Nat.zero_le _,rfl,by rw [List.take_zero,List.map_nil,List.append_nil];exact O.out,BE.out⟩
 case round=>
  obtain⟨j,hj,rfl,ho,hb⟩:=hrel
  have J:=Lh hj
  have O:=Lh ho
  have BW:=Lh hb
  clear hj ho hb
  obtain⟨wp,rfl⟩:∃wp:World,wp=wr:=⟨_,rfl⟩
  by_cases hlt:j<q
  ·as_aux_lemma=>
   have hD:decide ((j:Int)<(q:Int))=true:=by simp;omega
   have jb:(j:Int)<12:=by omega
   have JQ:=Lh hlt
   obtain⟨z,b',o',hz,hok,hA,hr⟩:=H0.out.at (show j<zs.length by rw [Q1.out];exact hlt)
   have AE:=Lh hA
   have OK:=Lh hok
   have Z32:=Lh (qWv hok.1)
   have TK:=Lh (show KC (T0++(zs.take (j+1)).map (·.k))=KC (T0++(zs.take j).map (·.k))++B8 z.k by rw [List.take_add_one,hz];simp [KC])
   have MSD:=Lh (qQ4 hr (P19.out.bel.trans (BW.out.mono P19.out.bel.size)))
   clear hz hok hA hr
   go_upto_region 24 with fail
   refine wp_region_list ?_
   simp only [kQf]
   refine qQa (by rfl) (by go_simp;rfl) ?_
   simp only [Act.put,pq1,pq2,pq3]
   refine qQa (by rfl) (by go_simp;rfl) ?_
   simp only [Act.put,pq1,pq2,pq3]
   refine qQa (by rfl) (by go_simp;rfl) ?_
   simp only [Act.put,pq1,pq2,pq3]
   refine qQa (by rfl) (qQr 23 (.tmp 152) (.tmp 153) rfl 63 Tryz.underlying23 34 qZC b' o' q c2 j JQ.out .i64 _ rfl (by rw [←AE.out];rfl) rfl _) ?_
   simp only [Act.put,pq1,pq2,pq3]
   refine qQa (by rfl) (by go_simp;rfl) ?_
   simp only [Act.put,pq1,pq2,pq3]
   refine qQa (by rfl) (qQI 38 (.tmp 155) rfl b' (o'+j*34+1) rfl (B8 z.k) (qWM MSD.out) Tryz.underlying38 rfl Z32.out) ?_
   simp only [Act.put,pq1,pq2,pq3]
   refine qQs (by rfl) (fun K hK=>?_)
   refine wp_key1 (.tmp 156) z.k OK.out.1 rfl rfl ?_
   generalize hN:Array.size (World.heap wp)=N6
   generalize hwn:World.alloc wp _=wq
   have bn:Below wp.heap.size wp wq:=by rw [←hwn];exact qQh _ _
   have RN:=Lh (show RdV wq (some ⟨N6,0,none⟩) (B8 z.k)from RdV.row (t:=38) (fr:=(0,0)) (by rw [←hwn];exact qQk _ _ _ hN.symm))
   have O:=Lh (O.out.below bn)
   have BW:=Lh (show Below wd.heap.size wd wq from BW.out.trans (bn.mono BW.out.size))
   clear hN hwn bn
   refine hK.out _ _ ?_
   clear hK K
   simp only [Act.put,pq1,pq2,pq3]
   refine appK_list rfl KeyK (.tmp 151) (.tmp 157) rfl wd.heap.size _ (3+j) (KC (T0++(zs.take j).map (·.k))) (B8 z.k) (some ⟨N6,0,none⟩) 1 1 rfl rfl (by rw [qQt,OK.out.1]) O.out RN.out (fun u hu=>KC_one [z.k] u (by simpa [KC]using hu)) BW.out.size (by omega) (by omega) ?_
   intro v9 w9 ho hg hat
   have BW:=Lh (show Below wd.heap.size wd w9 from BW.out.trans (qQi hg BW.out.size (fun g e=>(O.out.lt g e).1)))
   have O:=Lh (show OwnK w9 wd.heap.size 38 32 v9 (3+j+1) (KC (T0++(zs.take (j+1)).map (·.k))) by rw [TK.out];exact ho)
   clear ho hg hat
   simp only [Act.put,pq1,pq2,pq3]
   refine qQa (by rfl) (by go_simp;rfl) ?_
   simp only [Act.put,pq1,pq2,pq3]
   go_wp2_with fail
   go_roundw
   case rel=>exact⟨j+1,JQ.out,by go_num,O.out,BW.out⟩
   case measure=>have:=JQ.out;simp [intOf];omega
  ·have hD:decide ((j:Int)<(q:Int))=false:=by simp;omega
   have JE:=Lh (show j=q by have:=J.out;omega)
   obtain⟨TA,hTA⟩:∃TA,TA=T0++(zs.take j).map (·.k):=⟨_,rfl⟩
   have TA32:=Lh (show ∀x∈TA,x.length=32 by
    rw[hTA];intro x hx
    rcases List.mem_append.mp hx with h|h
    ·exact T32.out x h
    ·obtain⟨z,hz,rfl⟩:=List.mem_map.1 h
     exact(HOK.out z (List.mem_of_mem_take hz)).1)
   obtain⟨nT,hnT⟩:∃nT,nT=3+j:=⟨_,rfl⟩
   have TN:=Lh (show TA.length=nT by rw [hTA,hnT,kQj,List.length_map,kQp,T3.out,Q1.out,Nat.min_eq_left (by have:=J.out;omega)])
   have NT:=Lh (show nT≤15 by have:=J.out;have:=Q12.out;omega)
   have ho:=O.out
   rw[←hTA,←hnT]at ho
   obtain⟨_,AT,cT,rfl,hrv,hcr,_,hlo⟩:=ho.read
   have RV:=Lh hrv
   have ntb:(nT:Int)≤15:=by have:=NT.out;omega
   have P:=Lh (P19.out.keep BW.out)
   have R:=Lh (R19.out.keep BW.out)
   clear hTA hnT ho hrv hcr hlo O P19 R19 BE ESZ LWD BW
   go_wp2_with fail
   go_loopw [21] (fun i wr=>∃j:Nat,j≤nT∧i=.int .i64 (j:Int)∧Below wp.heap.size wp wr) (fun i _=>nT-(intOf i).toNat)
   case atStart=>exact⟨0,Nat.zero_le _,rfl,Below.refl _ _⟩
   case round=>
    obtain⟨i,hi,rfl,hb⟩:=hrel
    have I:=Lh hi
    have BW:=Lh hb
    clear hi hb
    obtain⟨wq,rfl⟩:∃wq:World,wq=wr:=⟨_,rfl⟩
    have P:=Lh (P.out.keep BW.out)
    have R:=Lh (R.out.keep BW.out)
    by_cases hlt2:i<nT
    ·as_aux_lemma=>
     have hD2:decide ((i:Int)<(nT:Int))=true:=by simp;omega
     have ib:(i:Int)<15:=by omega
     have IQ:=Lh hlt2
     obtain⟨x,hx⟩:∃x,TA[i]?=some x:=⟨_,kQi (by rw [TN.out];exact hlt2)⟩
     have X32:=Lh (TA32.out x (kQu hx))
     obtain⟨bk,ok,hA,hr⟩:=KC_range (RV.out.keep BW.out) TA32.out hx
     have AE:=Lh hA
     have XR:=Lh hr
     obtain⟨U,hU⟩:∃U,U=qZn s2 x xs:=⟨_,rfl⟩
     have UE:=Lh hU
     have S2M:=Lh (show s2.mode=0∨s2.mode=1 by rw [A2N.out.mode];exact S1B.out.2.2.2.2)
     have OU:=Lh (show OkK U.1 by rw [hU];exact qYF _ _ _)
     have UQ:=Lh (show qZQ ag.1 x xs=U by
      rw[hU]
      exact(unwrapQ_eq (fun y=>A2N.out.rel.opens S2M.out (fun _ i j x e e' h1 h2=>P.out.box.map.one h1 h2) x qZF y) xs).symm)
     have TX:=Lh (show ∀p∈s2.m,s2.mode=1→p.2.text.length≤100000 from fun p hp hm=>kQk (A2N.out.ts TS1.out p hp hm) (by omega))
     have UW:=Lh (show ∀W:World,Below wq.heap.size wq W→Calls Tryz.prog 17 #[.pointer (some ⟨g,0,none⟩),.agg ra,.agg (B8 x).toArray] W fun e w'=>e=.returned (.tuple #[.agg (RowK U.1).toArray,.int .i64 U.2])∧Below W.heap.size W w' from fun W hW=>by
      have h1:=qJU w3 g S D b L s2 W (P.out.box.keep hW) S2M.out (.agg ra) xs d L (R.out.rg.keep hW) (fun y hy=>by rw [XL.out y hy];omega) (by rw [X8.out];omega) x X32.out TX.out
      rw[←hU]at h1
      exact h1)
     have N3B:=Lh (show n3≤100 by have h1:=A2N.out.n;have h2:=S1B.out;have h3:=A2N.out.rel.n;have h4:=P.out.ln;omega)
     obtain⟨vU,hvU⟩:∃vU,vU=RowQ (if U.2=0 then U.1 else kysE):=⟨_,rfl⟩
     have VU:=Lh hvU
     have VZ:=Lh (show(Tryz.prog.info? 47).map (·.size)=some vU.size by rw [hvU];exact qZH _)
     have VO:=Lh (show vU.all (·.oneCell')=true by rw [hvU];exact qX0 _)
     have V4:=Lh (show(RowQ kysE).size=vU.size by rw [hvU];rfl)
     have RU:=Lh (show ∀W:World,Below wq.heap.size wq W→Calls Tryz.prog 18 #[.agg (RBC ag.1.mode ag.1.F ag.1.u A3 n3 c3),.agg rx,.string (strB x)] W fun e w'=>e=.returned (.tuple #[.agg vU,.int .i64 U.2])∧Below W.heap.size W w' from fun W hW=>by
      have h1:=runwrap_any W ag.1 (by rw [←A2N.out.rel.mode];exact S2M.out) A3 n3 c3 P.out.ln (P.out.rd.keep hW) (by have:=N3B.out;omega) B m k' xs (R.out.sx.keep hW) (by rw [X8.out,M8.out]) (fun y hy=>by rw [XL.out y hy];omega) (by have:=M8.out;omega) d x X32.out (fun y hy t ht=>by
       rw[←A2N.out.rel.opens S2M.out (fun _ i j x e e' h1 h2=>P.out.box.map.one h1 h2) x qZF y]at ht
       exact qKV ht (by rw [XL.out y hy];omega) TX.out S2M.out)
      rw[UQ.out,←RXE.out,←hvU]at h1
      exact h1)
     obtain⟨eu,heu⟩:∃eu,eu=U.2:=⟨_,rfl⟩
     rw[←heu]at UW RU
     have EU:=Lh heu
     have KU:=Lh (qQO U.1 OU.out)
     have ZU:=Lh (show(RowK kysZ).toArray.size=(RowK U.1).toArray.size by rw [qXN _ qZr,qXN _ OU.out])
     have K32x:=Lh (qWv X32.out)
     obtain⟨cs,hcs⟩:∃cs,cs=RBC ag.1.mode ag.1.F ag.1.u A3 n3 c3:=⟨_,rfl⟩
     rw[←hcs]at RU
     have CZ2:=Lh (show(Tryz.prog.info? 32).map (·.size)=some cs.size by rw [hcs];exact qQK)
     have RB:=Lh (show wq.heap[M9]?=some (.cells cs 32 (0,0)) by rw [hcs];exact P.out.row)
     have RX:=Lh (show wq.heap[M12]?=some (.cells rx 45 (0,0)) by rw [RXE.out];exact R.out.rx)
     clear hx hA hr hU hvU heu hcs UQ TX N3B
     go_upto_region 28 with fail
     go_cut [22,23] (fun v22 v23 wy=>∃M22,v22=.pointer (some ⟨M22,0,none⟩)∧v23=.int .i64 eu∧wy.heap[M22]?=some (.cells (RowK U.1).toArray 40 (0,0))∧Below wq.heap.size wq wy)
     case first=>
      have S:=Lh (show Below wq.heap.size wq wq.drew from(Below.refl _ _).drew)
      refine qZ5 (fun W=>Below wq.heap.size wq W) (.q 0 (.q 1 (.q 2 (.q 3 (.q 4 (.q 5 (.two 6 (.q 7 (.q 8 (.q 9 (.t 10 (.t 11 (.q 12 .done)))))) 10 (.t 6 (.q 7 (.q 8 (.q 9 (.t 11 (.q 12 .done))))))))))))) (by kernel_rfl) (by kernel_rfl) (fun _ _ d _ _ h=>by cases d<;>exact h) ?_
      generalize World.drew wq=wv at *
      refine qQn rfl rfl S.out (fun W hW=>by go_simp;rfl) ?_
      simp only [Act.put,pq1,pq2,pq3]
      refine qQn rfl rfl S.out (fun W hW=>qQj 35 (.tmp 10) rfl M10 rfl 35 ra (0,0) _ (qQb hW (qQe R.out.fa) R.out.fa) Tryz.underlying35 rfl IRA.out) ?_
      simp only [Act.put,pq1,pq2,pq3]
      refine qQn rfl rfl S.out (fun W hW=>by go_simp;rfl) ?_
      simp only [Act.put,pq1,pq2,pq3]
      refine qQn rfl rfl S.out (fun W hW=>by go_simp;rfl) ?_
      simp only [Act.put,pq1,pq2,pq3]
      refine qQn rfl rfl S.out (fun W hW=>qQr 61 (.tmp 168) (.tmp 169) rfl 38 Tryz.underlying61 32 (by kernel_rfl) bk ok nT cT i IQ.out .i64 _ rfl (by rw [←AE.out];rfl) rfl W) ?_
      simp only [Act.put,pq1,pq2,pq3]
      refine qQn rfl rfl S.out (fun W hW=>qQI 38 (.tmp 170) rfl bk (ok+i*32) rfl (B8 x) (qQ4 XR.out hW) Tryz.underlying38 rfl K32x.out) ?_
      simp only [Act.put,pq1,pq2,pq3]
      refine qZh ?_ ?_
      ·
       refine qQx rfl rfl (fun K hK=>?_)
       go_simp
       refine(UW.out wv S.out).mono ?_
       rintro e wv ⟨rfl,hb⟩
       have S:=Lh (S.out.trans (hb.mono S.out.size))
       try have RN:=Lh (qQb hb (qQe RN.out) RN.out)
       clear hb
       refine hK.out _ _ S.out ?_
       clear hK K
       refine qQn rfl rfl S.out (fun W hW=>by go_simp;rfl) ?_
       simp only [Act.put,pq1,pq2,pq3]
       refine qQn rfl rfl S.out (fun W hW=>by go_simp;rfl) ?_
       simp only [Act.put,pq1,pq2,pq3]
       refine qQn rfl rfl S.out (fun W hW=>by go_simp;rfl) ?_
       simp only [Act.put,pq1,pq2,pq3]
       refine qQx rfl rfl (fun K hK=>?_)
       go_simp
       rw[←ZK.out]
       generalize hM:Array.size (World.heap wv)=M22
       generalize hwn:World.alloc wv _=wn
       have RN:=Lh (show wn.heap[M22]?=some (.cells (RowK kysZ).toArray 40 (0,0)) by rw [←hwn];exact qQk _ _ _ hM.symm)
       have MS:=Lh (show wq.heap.size≤M22 by rw [←hM];exact S.out.size)
       have S:=Lh (show Below wq.heap.size wq wn by rw [←hwn];exact S.out.alloc S.out.size _)
       clear hM hwn
       obtain⟨wv,rfl⟩:∃wv:World,wv=wn:=⟨_,rfl⟩
       refine hK.out _ _ S.out ?_
       clear hK K
       refine qQx rfl rfl (fun K hK=>?_)
       refine qQN 40 (.tmp 22) (.tmp 173) rfl M22 (RowK U.1).toArray rfl rfl _ _ RN.out KU.out ZU.out (qZO _) ?_
       intro wz hz9 hg9 _
       have RN:=Lh hz9
       have S:=Lh (S.out.trans (qQi hg9 S.out.size (fun g' e=>by have e:M22=g':=Option.some.inj e;have:=MS.out;omega)))
       clear hz9 hg9
       refine hK.out _ _ S.out ?_
       clear hK K
       refine qQn rfl rfl S.out (fun W hW=>by go_simp;rfl) ?_
       simp only [Act.put,pq1,pq2,pq3]
       refine qQ8 ?_
       go_wp2_with fail
       go_meet
       exact⟨M22,rfl,rfl,RN.out,S.out⟩
      ·
       refine qQx rfl rfl (fun K hK=>?_)
       go_simp
       rw[←ZK.out]
       generalize hM:Array.size (World.heap wv)=M22
       generalize hwn:World.alloc wv _=wn
       have RN:=Lh (show wn.heap[M22]?=some (.cells (RowK kysZ).toArray 40 (0,0)) by rw [←hwn];exact qQk _ _ _ hM.symm)
       have MS:=Lh (show wq.heap.size≤M22 by rw [←hM];exact S.out.size)
       have S:=Lh (show Below wq.heap.size wq wn by rw [←hwn];exact S.out.alloc S.out.size _)
       clear hM hwn
       obtain⟨wv,rfl⟩:∃wv:World,wv=wn:=⟨_,rfl⟩
       refine hK.out _ _ S.out ?_
       clear hK K
       refine qQx rfl rfl (fun K hK=>?_)
       go_simp
       refine(UW.out wv S.out).mono ?_
       rintro e wv ⟨rfl,hb⟩
       have S:=Lh (S.out.trans (hb.mono S.out.size))
       try have RN:=Lh (qQb hb (qQe RN.out) RN.out)
       clear hb
       refine hK.out _ _ S.out ?_
       clear hK K
       refine qQn rfl rfl S.out (fun W hW=>by go_simp;rfl) ?_
       simp only [Act.put,pq1,pq2,pq3]
       refine qQn rfl rfl S.out (fun W hW=>by go_simp;rfl) ?_
       simp only [Act.put,pq1,pq2,pq3]
       refine qQn rfl rfl S.out (fun W hW=>by go_simp;rfl) ?_
       simp only [Act.put,pq1,pq2,pq3]
       refine qQx rfl rfl (fun K hK=>?_)
       refine qQN 40 (.tmp 22) (.tmp 173) rfl M22 (RowK U.1).toArray rfl rfl _ _ RN.out KU.out ZU.out (qZO _) ?_
       intro wz hz9 hg9 _
       have RN:=Lh hz9
       have S:=Lh (S.out.trans (qQi hg9 S.out.size (fun g' e=>by have e:M22=g':=Option.some.inj e;have:=MS.out;omega)))
       clear hz9 hg9
       refine hK.out _ _ S.out ?_
       clear hK K
       refine qQn rfl rfl S.out (fun W hW=>by go_simp;rfl) ?_
       simp only [Act.put,pq1,pq2,pq3]
       refine qQ8 ?_
       go_wp2_with fail
       go_meet
       exact⟨M22,rfl,rfl,RN.out,S.out⟩
     case rest=>
     obtain⟨M22,rfl,rfl,h22,hbc⟩:=hcut
     have R22:=Lh h22
     have D1:=Lh hbc
     clear h22 hbc
     obtain⟨ws,rfl⟩:∃ws:World,ws=wc:=⟨_,rfl⟩
     go_upto_region 29 with fail
     go_cut [24,25] (fun v24 v25 wy=>∃M24,v24=.pointer (some ⟨M24,0,none⟩)∧v25=.int .i64 eu∧wy.heap[M24]?=some (.cells vU 47 (0,0))∧Below ws.heap.size ws wy)
     case first=>
      have S:=Lh (show Below ws.heap.size ws ws.drew from(Below.refl _ _).drew)
      refine qZ5 (fun W=>Below ws.heap.size ws W) (.q 0 (.q 1 (.q 2 (.q 3 (.q 4 (.q 5 (.q 6 (.two 7 (.q 8 (.q 9 (.q 10 (.t 11 (.t 12 (.q 13 .done)))))) 11 (.t 7 (.q 8 (.q 9 (.q 10 (.t 12 (.q 13 .done)))))))))))))) (by kernel_rfl) (by kernel_rfl) (fun _ _ d _ _ h=>by cases d<;>exact h) ?_
      generalize World.drew ws=wv at *
      refine qQn rfl rfl S.out (fun W hW=>qQj 32 (.tmp 9) rfl M9 rfl 32 cs (0,0) _ (qQb (D1.out.trans (hW.mono D1.out.size)) (qQe RB.out) RB.out) Tryz.underlying32 rfl CZ2.out) ?_
      simp only [Act.put,pq1,pq2,pq3]
      refine qQn rfl rfl S.out (fun W hW=>qQj 45 (.tmp 12) rfl M12 rfl 45 rx (0,0) _ (qQb (D1.out.trans (hW.mono D1.out.size)) (qQe RX.out) RX.out) Tryz.underlying45 rfl RXZ.out) ?_
      simp only [Act.put,pq1,pq2,pq3]
      refine qQn rfl rfl S.out (fun W hW=>by go_simp;rfl) ?_
      simp only [Act.put,pq1,pq2,pq3]
      refine qQn rfl rfl S.out (fun W hW=>by go_simp;rfl) ?_
      simp only [Act.put,pq1,pq2,pq3]
      refine qQn rfl rfl S.out (fun W hW=>qQr 61 (.tmp 178) (.tmp 179) rfl 38 Tryz.underlying61 32 (by kernel_rfl) bk ok nT cT i IQ.out .i64 _ rfl (by rw [←AE.out];rfl) rfl W) ?_
      simp only [Act.put,pq1,pq2,pq3]
      refine qQn rfl rfl S.out (fun W hW=>qZA 38 (.tmp 180) rfl 32 5 Tryz.underlying38 rfl bk (ok+i*32) rfl W) ?_
      simp only [Act.put,pq1,pq2,pq3]
      refine qQn rfl rfl S.out (fun W hW=>qZo 22 9 (.tmp 181) rfl Tryz.underlying22 Tryz.underlying5 Tryz.underlying9 (RdB.range (qQ4 XR.out (D1.out.trans (hW.mono D1.out.size)))) 32 32 X32.out rfl) ?_
      simp only [Act.put,pq1,pq2,pq3]
      refine qZh ?_ ?_
      ·
       refine qQx rfl rfl (fun K hK=>?_)
       go_simp
       refine(RU.out wv (D1.out.trans (S.out.mono D1.out.size))).mono ?_
       rintro e wv ⟨rfl,hb⟩
       have S:=Lh (S.out.trans (hb.mono S.out.size))
       try have RN:=Lh (qQb hb (qQe RN.out) RN.out)
       clear hb
       refine hK.out _ _ S.out ?_
       clear hK K
       refine qQn rfl rfl S.out (fun W hW=>by go_simp;rfl) ?_
       simp only [Act.put,pq1,pq2,pq3]
       refine qQn rfl rfl S.out (fun W hW=>by go_simp;rfl) ?_
       simp only [Act.put,pq1,pq2,pq3]
       refine qQn rfl rfl S.out (fun W hW=>by go_simp;rfl) ?_
       simp only [Act.put,pq1,pq2,pq3]
       refine qQx rfl rfl (fun K hK=>?_)
       go_simp
       generalize hM:Array.size (World.heap wv)=M24
       generalize hwn:World.alloc wv _=wn
       have RN:=Lh (show wn.heap[M24]?=some (.cells (RowQ kysE) 47 (0,0)) by rw [←hwn];exact qQk _ _ _ hM.symm)
       have MS:=Lh (show ws.heap.size≤M24 by rw [←hM];exact S.out.size)
       have S:=Lh (show Below ws.heap.size ws wn by rw [←hwn];exact S.out.alloc S.out.size _)
       clear hM hwn
       obtain⟨wv,rfl⟩:∃wv:World,wv=wn:=⟨_,rfl⟩
       refine hK.out _ _ S.out ?_
       clear hK K
       refine qQx rfl rfl (fun K hK=>?_)
       refine qQN 47 (.tmp 24) (.tmp 184) rfl M24 vU rfl rfl _ _ RN.out VZ.out V4.out VO.out ?_
       intro wz hz9 hg9 _
       have RN:=Lh hz9
       have S:=Lh (S.out.trans (qQi hg9 S.out.size (fun g' e=>by have e:M24=g':=Option.some.inj e;have:=MS.out;omega)))
       clear hz9 hg9
       refine hK.out _ _ S.out ?_
       clear hK K
       refine qQn rfl rfl S.out (fun W hW=>by go_simp;rfl) ?_
       simp only [Act.put,pq1,pq2,pq3]
       refine qQ8 ?_
       go_wp2_with fail
       go_meet
       exact⟨M24,rfl,rfl,RN.out,S.out⟩
      ·
       refine qQx rfl rfl (fun K hK=>?_)
       go_simp
       generalize hM:Array.size (World.heap wv)=M24
       generalize hwn:World.alloc wv _=wn
       have RN:=Lh (show wn.heap[M24]?=some (.cells (RowQ kysE) 47 (0,0)) by rw [←hwn];exact qQk _ _ _ hM.symm)
       have MS:=Lh (show ws.heap.size≤M24 by rw [←hM];exact S.out.size)
       have S:=Lh (show Below ws.heap.size ws wn by rw [←hwn];exact S.out.alloc S.out.size _)
       clear hM hwn
       obtain⟨wv,rfl⟩:∃wv:World,wv=wn:=⟨_,rfl⟩
       refine hK.out _ _ S.out ?_
       clear hK K
       refine qQx rfl rfl (fun K hK=>?_)
       go_simp
       refine(RU.out wv (D1.out.trans (S.out.mono D1.out.size))).mono ?_
       rintro e wv ⟨rfl,hb⟩
       have S:=Lh (S.out.trans (hb.mono S.out.size))
       try have RN:=Lh (qQb hb (qQe RN.out) RN.out)
       clear hb
       refine hK.out _ _ S.out ?_
       clear hK K
       refine qQn rfl rfl S.out (fun W hW=>by go_simp;rfl) ?_
       simp only [Act.put,pq1,pq2,pq3]
       refine qQn rfl rfl S.out (fun W hW=>by go_simp;rfl) ?_
       simp only [Act.put,pq1,pq2,pq3]
       refine qQn rfl rfl S.out (fun W hW=>by go_simp;rfl) ?_
       simp only [Act.put,pq1,pq2,pq3]
       refine qQx rfl rfl (fun K hK=>?_)
       refine qQN 47 (.tmp 24) (.tmp 184) rfl M24 vU rfl rfl _ _ RN.out VZ.out V4.out VO.out ?_
       intro wz hz9 hg9 _
       have RN:=Lh hz9
       have S:=Lh (S.out.trans (qQi hg9 S.out.size (fun g' e=>by have e:M24=g':=Option.some.inj e;have:=MS.out;omega)))
       clear hz9 hg9
       refine hK.out _ _ S.out ?_
       clear hK K
       refine qQn rfl rfl S.out (fun W hW=>by go_simp;rfl) ?_
       simp only [Act.put,pq1,pq2,pq3]
       refine qQ8 ?_
       go_wp2_with fail
       go_meet
       exact⟨M24,rfl,rfl,RN.out,S.out⟩
     case rest=>
     obtain⟨M24,rfl,rfl,h24,hbc⟩:=hcut
     have R24:=Lh h24
     have R22:=Lh (qQb hbc (qQe R22.out) R22.out)
     have D2:=Lh (BW.out.trans ((D1.out.trans (hbc.mono D1.out.size)).mono BW.out.size))
     clear h24 hbc D1
     obtain⟨wt,rfl⟩:∃wt:World,wt=wc:=⟨_,rfl⟩
     have Z:=Lh (show Below wt.heap.size wt wt.drew from(Below.refl _ _).drew)
     rcases unwrapL_two s2 x xs with h0|h13
     ·rw [←UE.out]at h0
      have e0:eu=0:=EU.out.trans h0
      have R24:=Lh (show wt.heap[M24]?=some (.cells (RowQ U.1) 47 (0,0)) by have:=R24.out;rw [VU.out,if_pos h0]at this;exact this)
      have QZ2:=Lh (qZH U.1)
      subst e0
      clear h0
      go_upto_region 30 with fail
      refine qQu (fun W=>Below wt.heap.size wt W) [(true,0),(true,1),(true,2),(true,3),(true,4),(true,5),(true,6),(true,7),(true,9),(false,8),(true,10),(true,11),(true,12),(true,13),(true,14),(true,15),(true,16),(true,17),(true,18),(true,19),(true,20),(true,21)] (by kernel_rfl) (by kernel_rfl) (fun _ _ d _ _ h=>by cases d<;>exact h) ?_
      simp only [kQl,kQm,kQd,kQg,kQe,kQo]
      generalize World.drew wt=wv at *
      refine qQc (by rfl) Z.out (fun W hW=>by go_simp;rfl) ?_
      simp only [Act.put,pq1,pq2,pq3]
      refine qQc (by rfl) Z.out (fun W hW=>by go_simp;rfl) ?_
      simp only [Act.put,pq1,pq2,pq3]
      refine qQc (by rfl) Z.out (fun W hW=>by go_simp;rfl) ?_
      simp only [Act.put,pq1,pq2,pq3]
      refine qQc (by rfl) Z.out (fun W hW=>by go_simp;rfl) ?_
      simp only [Act.put,pq1,pq2,pq3]
      refine qQc (by rfl) Z.out (fun W hW=>by go_simp;rfl) ?_
      simp only [Act.put,pq1,pq2,pq3]
      refine qQc (by rfl) Z.out (fun W hW=>by go_simp;rfl) ?_
      simp only [Act.put,pq1,pq2,pq3]
      refine qQc (by rfl) Z.out (fun W hW=>by go_simp;rfl) ?_
      simp only [Act.put,pq1,pq2,pq3]
      refine qQc (by rfl) Z.out (fun W hW=>qQj 40 (.tmp 22) rfl M22 rfl 40 (RowK U.1).toArray (0,0) _ (qQb hW (qQe R22.out) R22.out) Tryz.underlying40 rfl KU.out) ?_
      simp only [Act.put,pq1,pq2,pq3]
      refine qQc (by rfl) Z.out (fun W hW=>qQj 47 (.tmp 24) rfl M24 rfl 47 (RowQ U.1) (0,0) _ (qQb hW (qQe R24.out) R24.out) Tryz.underlying47 rfl QZ2.out) ?_
      simp only [Act.put,pq1,pq2,pq3]
      refine qQE (by rfl) (fun K hK=>?_)
      go_simp
      refine(keys_any wv U.1 OU.out).mono ?_
      rintro e wv ⟨rfl,hb⟩
      have Z:=Lh (Z.out.trans (hb.mono Z.out.size))
      clear hb
      refine hK.out _ _ Z.out ?_
      clear hK K
      refine qQc (by rfl) Z.out (fun W hW=>qJt _ (.tmp 194) (.tmp 195) rfl U.1 rfl rfl W) ?_
      simp only [Act.put,pq1,pq2,pq3]
      refine qQc (by rfl) Z.out (fun W hW=>by go_simp;rfl) ?_
      simp only [Act.put,pq1,pq2,pq3]
      refine qQc (by rfl) Z.out (fun W hW=>by go_simp;rfl) ?_
      simp only [Act.put,pq1,pq2,pq3]
      refine qQc (by rfl) Z.out (fun W hW=>by go_simp;rfl) ?_
      simp only [Act.put,pq1,pq2,pq3]
      refine qQc (by rfl) Z.out (fun W hW=>by go_simp;rfl) ?_
      simp only [Act.put,pq1,pq2,pq3]
      refine qQc (by rfl) Z.out (fun W hW=>by go_simp;rfl) ?_
      simp only [Act.put,pq1,pq2,pq3]
      refine qQc (by rfl) Z.out (fun W hW=>by go_simp;rfl) ?_
      simp only [Act.put,pq1,pq2,pq3]
      refine qQ2 (by rfl) Z.out ?_
      simp only [Act.put,pq1,pq2,pq3]
      refine qQ2 (by rfl) Z.out ?_
      simp only [Act.put,pq1,pq2,pq3]
      refine qQ2 (by rfl) Z.out ?_
      simp only [Act.put,pq1,pq2,pq3]
      refine qQc (by rfl) Z.out (fun W hW=>by go_simp;rfl) ?_
      simp only [Act.put,pq1,pq2,pq3]
      refine qQc (by rfl) Z.out (fun W hW=>by go_simp;rfl) ?_
      simp only [Act.put,pq1,pq2,pq3]
      refine qQG ?_
      go_wp2_with fail
      go_roundw
      case rel=>exact⟨i+1,IQ.out,by go_num,D2.out.trans (Z.out.mono D2.out.size)⟩
      case measure=>have:=IQ.out;simp [intOf];omega
     ·rw [←UE.out]at h13
      have e0:eu=13:=by rw [EU.out,h13]
      have R22:=Lh (show wt.heap[M22]?=some (.cells (RowK kysZ).toArray 40 (0,0)) by have:=R22.out;rw [h13]at this;exact this)
      subst e0
      clear h13
      go_upto_region 30 with fail
      refine qQu (fun W=>Below wt.heap.size wt W) [(true,0),(true,1),(true,2),(true,3),(true,4),(true,5),(true,6),(true,7),(true,9),(false,8),(true,10),(true,11),(true,12),(true,13),(true,14),(true,15),(true,16),(true,17),(true,18),(true,19),(true,20),(true,21)] (by kernel_rfl) (by kernel_rfl) (fun _ _ d _ _ h=>by cases d<;>exact h) ?_
      simp only [kQl,kQm,kQd,kQg,kQe,kQo]
      generalize World.drew wt=wv at *
      refine qQc (by rfl) Z.out (fun W hW=>by go_simp;rfl) ?_
      simp only [Act.put,pq1,pq2,pq3]
      refine qQc (by rfl) Z.out (fun W hW=>by go_simp;rfl) ?_
      simp only [Act.put,pq1,pq2,pq3]
      refine qQc (by rfl) Z.out (fun W hW=>by go_simp;rfl) ?_
      simp only [Act.put,pq1,pq2,pq3]
      refine qQc (by rfl) Z.out (fun W hW=>by go_simp;rfl) ?_
      simp only [Act.put,pq1,pq2,pq3]
      refine qQc (by rfl) Z.out (fun W hW=>by go_simp;rfl) ?_
      simp only [Act.put,pq1,pq2,pq3]
      refine qQc (by rfl) Z.out (fun W hW=>by go_simp;rfl) ?_
      simp only [Act.put,pq1,pq2,pq3]
      refine qQc (by rfl) Z.out (fun W hW=>by go_simp;rfl) ?_
      simp only [Act.put,pq1,pq2,pq3]
      refine qQ2 (by rfl) Z.out ?_
      simp only [Act.put,pq1,pq2,pq3]
      refine qQ2 (by rfl) Z.out ?_
      simp only [Act.put,pq1,pq2,pq3]
      refine planG_ts (by rfl) Z.out ?_
      simp only [Act.put,pq1,pq2,pq3]
      refine qQ2 (by rfl) Z.out ?_
      simp only [Act.put,pq1,pq2,pq3]
      refine qQc (by rfl) Z.out (fun W hW=>by go_simp;rfl) ?_
      simp only [Act.put,pq1,pq2,pq3]
      refine qQc (by rfl) Z.out (fun W hW=>by go_simp;rfl) ?_
      simp only [Act.put,pq1,pq2,pq3]
      refine qQc (by rfl) Z.out (fun W hW=>by go_simp;rfl) ?_
      simp only [Act.put,pq1,pq2,pq3]
      refine qQc (by rfl) Z.out (fun W hW=>by go_simp;rfl) ?_
      simp only [Act.put,pq1,pq2,pq3]
      refine qQc (by rfl) Z.out (fun W hW=>by go_simp;rfl) ?_
      simp only [Act.put,pq1,pq2,pq3]
      refine qQc (by rfl) Z.out (fun W hW=>by go_simp;rfl) ?_
      simp only [Act.put,pq1,pq2,pq3]
      refine qQc (by rfl) Z.out (fun W hW=>qQj 40 (.tmp 22) rfl M22 rfl 40 (RowK kysZ).toArray (0,0) _ (qQb hW (qQe R22.out) R22.out) Tryz.underlying40 rfl (qQO _ qZr)) ?_
      simp only [Act.put,pq1,pq2,pq3]
      refine qQc (by rfl) Z.out (fun W hW=>qVl rfl W) ?_
      simp only [Act.put,pq1,pq2,pq3]
      refine qQc (by rfl) Z.out (fun W hW=>run_neq_kys _ (.tmp 203) (.tmp 204) rfl kysZ qZr rfl rfl W) ?_
      simp only [Act.put,pq1,pq2,pq3]
      refine qQc (by rfl) Z.out (fun W hW=>by go_simp;rfl) ?_
      simp only [Act.put,pq1,pq2,pq3]
      refine qQc (by rfl) Z.out (fun W hW=>by go_simp;rfl) ?_
      simp only [Act.put,pq1,pq2,pq3]
      refine qQG ?_
      go_wp2_with fail
      go_roundw
      case rel=>exact⟨i+1,IQ.out,by go_num,D2.out.trans (Z.out.mono D2.out.size)⟩
      case measure=>have:=IQ.out;simp [intOf];omega
    ·have hD2:decide ((i:Int)<(nT:Int))=false:=by simp;omega
     have TX:=Lh (show ∀p∈s2.m,s2.mode=1→p.2.text.length≤100000 from fun p hp hm=>kQk (A2N.out.ts TS1.out p hp hm) (by omega))
     have S2M:=Lh (show s2.mode=0∨s2.mode=1 by rw [A2N.out.mode];exact S1B.out.2.2.2.2)
     have OPD:=Lh (show qXn s2 ya.o dirB d=some (dirL zs)from GX.out.opens)
     have N3B:=Lh (show n3≤100 by have h1:=A2N.out.n;have h2:=S1B.out;have h3:=A2N.out.rel.n;have h4:=P.out.ln;omega)
     have KO:=Lh (qVN (y:=ya) (b:=M10+1) (o:=0) (qQ5 R.out.ky) OYA.out.1)
     have K32o:=Lh (qWv OYA.out.2)
     have MBR:=Lh (show Calls Tryz.prog 19 #[.pointer (some ⟨g,0,none⟩),.agg ra,.agg (B8 ya.o).toArray] wq fun e w'=>(∃A c,e=.returned (.tuple #[.slice A q c,.int .i64 0])∧RdM w' A zs∧q≤c)∧Below wq.heap.size wq w' by
      refine(members_any w3 g S D b L s2 wq P.out.box S2M.out (.agg ra) xs d L R.out.rg (by rw [DL.out];omega) ya.o OYA.out.2 TX.out).mono ?_
      rintro e w' ⟨h,hb⟩
      refine⟨?_,hb⟩
      have hm:=membersL_dir CK.out HOK.out
      rcases h with ⟨h1,_⟩|⟨t,h1,h2,_⟩|⟨t,A,c,h1,h2,h3,h4,h5⟩
      ·rw [OPD.out]at h1
       cases h1
      ·rw [OPD.out]at h1
       injection h1 with h1
       subst h1
       rw[hm,CK.out]at h2
       simp at h2
      ·rw [OPD.out]at h1
       injection h1 with h1
       subst h1
       rw[hm,Q1.out]at h5
       rw[hm]at h4
       rw[hm,Q1.out]at h3
       exact⟨A,c,h3,h4,h5⟩)
     have RMB:=Lh (show ∀W:World,Below wq.heap.size wq W→Calls Tryz.prog 20 #[.agg (RBC ag.1.mode ag.1.F ag.1.u A3 n3 c3),.agg rx,.string (strB ya.o)] W fun e w'=>∃A' c',e=.returned (.tuple #[.slice A' q c',.int .i64 0])∧RdV w' A' (EM zs)∧q≤c'∧(∀a,A'=some a→W.heap.size≤a.block∧a.block<w'.heap.size)∧Below W.heap.size W w' from fun W hW=>by
      rw[RXE.out]
      exact rmembers_any W ag.1 (by rw [←A2N.out.rel.mode];exact S2M.out) A3 n3 c3 P.out.ln (P.out.rd.keep hW) (by have:=N3B.out;omega) B m k' d (by rw [DL.out];omega) ya.o OYA.out.2 zs CK.out HOK.out q Q1.out (by
       rw[←A2N.out.rel.opens S2M.out (fun _ i j x e e' h1 h2=>P.out.box.map.one h1 h2) ya.o dirB d]
       exact OPD.out))
     obtain⟨cs,hcs⟩:∃cs,cs=RBC ag.1.mode ag.1.F ag.1.u A3 n3 c3:=⟨_,rfl⟩
     rw[←hcs]at RMB
     have CZ2:=Lh (show(Tryz.prog.info? 32).map (·.size)=some cs.size by rw [hcs];exact qQK)
     have RB:=Lh (show wq.heap[M9]?=some (.cells cs 32 (0,0)) by rw [hcs];exact P.out.row)
     have RX:=Lh (show wq.heap[M12]?=some (.cells rx 45 (0,0)) by rw [RXE.out];exact R.out.rx)
     clear hcs
     go_upto_region 32 with fail
     refine wp_region_list ?_
     simp only [kQf]
     refine qQa (by rfl) (by go_simp;rfl) ?_
     simp only [Act.put,pq1,pq2,pq3]
     refine qQa (by rfl) (qQj 35 (.tmp 10) rfl M10 rfl 35 ra (0,0) _ R.out.fa Tryz.underlying35 rfl IRA.out) ?_
     simp only [Act.put,pq1,pq2,pq3]
     refine qQa (by rfl) (by go_simp;rfl) ?_
     simp only [Act.put,pq1,pq2,pq3]
     refine qQa (by rfl) (qQI 38 (.tmp 211) rfl (M10+1) 33 rfl (B8 ya.o) (by have h1:=KO.out;rwa [Nat.zero_add]at h1) Tryz.underlying38 rfl K32o.out) ?_
     simp only [Act.put,pq1,pq2,pq3]
     refine qQs (by rfl) (fun K hK=>?_)
     go_simp
     refine MBR.out.mono ?_
     clear MBR
     rintro e ws ⟨⟨Am,cm,rfl,hrm,hcm⟩,hb⟩
     have RM:=Lh hrm
     have D1:=Lh hb
     clear hrm hcm hb
     refine hK.out _ _ ?_
     clear hK K
     have RB:=Lh (qQb D1.out (qQe RB.out) RB.out)
     have RX:=Lh (qQb D1.out (qQe RX.out) RX.out)
     have RQ:=Lh (qQb D1.out (qQe R.out.kq) R.out.kq)
     go_upto_region 33 with fail
     refine wp_region_list ?_
     simp only [kQf]
     refine qQa (by rfl) (qQj 32 (.tmp 9) rfl M9 rfl 32 cs (0,0) _ RB.out Tryz.underlying32 rfl CZ2.out) ?_
     simp only [Act.put,pq1,pq2,pq3]
     refine qQa (by rfl) (qQj 45 (.tmp 12) rfl M12 rfl 45 rx (0,0) _ RX.out Tryz.underlying45 rfl RXZ.out) ?_
     simp only [Act.put,pq1,pq2,pq3]
     refine qQa (by rfl) (by go_simp;rfl) ?_
     simp only [Act.put,pq1,pq2,pq3]
     refine qQa (by rfl) (qQq 9 (.tmp 219) rfl _ Tryz.underlying9 rfl rfl (qQg RQ.out 2 (show(RowQ ya)[2]?=some (.string (strB ya.o))from rfl))) ?_
     simp only [Act.put,pq1,pq2,pq3]
     refine qQs (by rfl) (fun K hK=>?_)
     go_simp
     refine(RMB.out ws D1.out).mono ?_
     clear RMB
     rintro e wt ⟨Ar,cr,rfl,hra,hcr,_,hb⟩
     have RR:=Lh hra
     have D2:=Lh (D1.out.trans (hb.mono D1.out.size))
     have RM:=Lh (RM.out.keep hb)
     clear hra hcr hb RB RX RQ
     refine hK.out _ _ ?_
     clear hK K
     go_wp2_with fail
     refine(qW2 wt Am q cm zs Q1.out RM.out (by have:=Q12.out;omega)).mono ?_
     rintro e wu ⟨Ao,co,rfl,hro,_,_,hb⟩
     have RO:=Lh hro
     have RR:=Lh (RR.out.keep hb)
     have D3:=Lh (P.out.bel.trans ((D2.out.trans (hb.mono D2.out.size)).mono P.out.bel.size))
     clear hro hb D1 D2 RM
     go_wp2_with fail
     go_loopw [29] (fun i wr=>∃j:Nat,j≤q∧i=.int .i64 (j:Int)∧Below wu.heap.size wu wr) (fun i _=>q-(intOf i).toNat)
     case atStart=>exact⟨0,Nat.zero_le _,rfl,Below.refl _ _⟩
     case round=>
      obtain⟨e,he,rfl,hbw⟩:=hrel
      have E:=Lh he
      have BV:=Lh hbw
      clear he hbw
      obtain⟨wv,rfl⟩:∃wv:World,wv=wr:=⟨_,rfl⟩
      by_cases hlt3:e<q
      ·have hD3:decide ((e:Int)<(q:Int))=true:=by simp;omega
       have eb2:(e:Int)<12:=by omega
       have EQ:=Lh hlt3
       obtain⟨z,hz⟩:∃z,zs[e]?=some z:=⟨_,kQi (by rw [Q1.out];exact hlt3)⟩
       obtain⟨bo,oo,hAo,hco⟩:=qJ9 (RO.out.keep BV.out) hz
       obtain⟨br,orr,hAr,hcr⟩:=qJ9 (RR.out.keep BV.out) hz
       have AO:=Lh hAo
       have AR:=Lh hAr
       have CO:=Lh (show wv.rangeAt bo (oo+e*3) (RowN z)from hco)
       have CR:=Lh (show wv.rangeAt br (orr+e*3) (RowN z)from hcr)
       have Z:=Lh (show Below wv.heap.size wv wv.drew from(Below.refl _ _).drew)
       clear hz hAo hco hAr hcr
       go_upto_region 40 with fail
       refine qQu (fun W=>Below wv.heap.size wv W) [(true,0),(true,1),(true,2),(true,3),(true,4),(true,5),(true,6),(true,7),(true,8)] (by kernel_rfl) (by kernel_rfl) (fun _ _ d _ _ h=>by cases d<;>exact h) ?_
       simp only [kQl,kQm,kQd,kQg,kQe,kQo]
       generalize World.drew wv=wx at *
       refine qQc (by rfl) Z.out (fun W hW=>by go_simp;rfl) ?_
       simp only [Act.put,pq1,pq2,pq3]
       refine qQc (by rfl) Z.out (fun W hW=>by go_simp;rfl) ?_
       simp only [Act.put,pq1,pq2,pq3]
       refine qQc (by rfl) Z.out (fun W hW=>qQr 50 (.tmp 242) (.tmp 243) rfl 73 Tryz.underlying50 3 qQU bo oo q co e EQ.out .i64 _ rfl (by rw [←AO.out];rfl) rfl W) ?_
       simp only [Act.put,pq1,pq2,pq3]
       refine qQc (by rfl) Z.out (fun W hW=>qQI 73 (.tmp 244) rfl bo (oo+e*3) rfl (RowN z) (qQ4 CO.out hW) Tryz.underlying73 rfl qQU) ?_
       simp only [Act.put,pq1,pq2,pq3]
       refine qQc (by rfl) Z.out (fun W hW=>by go_simp;rfl) ?_
       simp only [Act.put,pq1,pq2,pq3]
       refine qQc (by rfl) Z.out (fun W hW=>by go_simp;rfl) ?_
       simp only [Act.put,pq1,pq2,pq3]
       refine qQc (by rfl) Z.out (fun W hW=>qQr 50 (.tmp 246) (.tmp 247) rfl 73 Tryz.underlying50 3 qQU br orr q cr e EQ.out .i64 _ rfl (by rw [←AR.out];rfl) rfl W) ?_
       simp only [Act.put,pq1,pq2,pq3]
       refine qQc (by rfl) Z.out (fun W hW=>qQI 73 (.tmp 248) rfl br (orr+e*3) rfl (RowN z) (qQ4 CR.out hW) Tryz.underlying73 rfl qQU) ?_
       simp only [Act.put,pq1,pq2,pq3]
       refine qQc (by rfl) Z.out (fun W hW=>run_neq_rmem _ (.tmp 245) (.tmp 249) rfl z rfl rfl W) ?_
       simp only [Act.put,pq1,pq2,pq3]
       refine qQG ?_
       go_wp2_with fail
       go_roundw
       case rel=>exact⟨e+1,EQ.out,by go_num,BV.out.trans (Z.out.mono BV.out.size)⟩
       case measure=>have:=EQ.out;simp [intOf];omega
      ·have hD3:decide ((e:Int)<(q:Int))=false:=by simp;omega
       have D4:=Lh (D3.out.trans (BV.out.mono D3.out.size))
       go_wp2_with fail
       refine(one_true wv).mono ?_
       rintro e wy ⟨rfl,hb⟩
       have BF:=Lh (D4.out.trans (hb.mono D4.out.size))
       clear hb
       go_wp2_with fail
       go_ret
       exact⟨rfl,BF.out⟩
end Go.Proofs.YtlocplkjokoknaaGreat
namespace Go.Proofs.YtlocplkjokoknaaGreat
open Go.RowKit Go.ChangeShapes Go.WideShapes
theorem bounds_i64 {z:Int} (h:(Lit.int .i64 z).wf=true) : -9223372036854775808≤z∧z≤9223372036854775807:=by
 simp only [Lit.wf,IntKind.min,IntKind.max,IntKind.signed,IntKind.bits,Bool.and_eq_true,decide_eq_true_eq,if_true]at h
 omega
theorem wf_u8_nat {z:Int} (h:(Lit.int .u8 z).wf=true):∃x:UInt8,z=(x.toNat:Int):=by
 have hb:=bounds_u8 h
 refine⟨UInt8.ofNat z.toNat,?_⟩
 simp
 omega
theorem list_u8:∀(zs:List Int),(∀z∈zs,(Lit.int .u8 z).wf=true)→∃l:List UInt8,zs=l.map fun x=>(x.toNat:Int)
 | [],_=>⟨[],rfl⟩
 | z::r,h=>by
  obtain⟨x,hx⟩:=wf_u8_nat (h z (by simp))
  obtain⟨l,hl⟩:=list_u8 r (fun y hy=>h y (by simp [hy]))
  exact⟨x::l,by rw [hx,hl];rfl⟩
section
variable {H:Type} {enc:TypeId×Value→H} {P:Program} {W:World} {b0:Nat} {sp:Nat→Bool} {held:Bool}
theorem qKX {t e:TypeId} {r:Reach} {base:Nat} {x:Addr} {n c:Nat} (ht:P.underlying t=some (.slice e)) (hv:Value.okWide P W r base t (.slice (some x) n c)):x.block<W.heap.size:=by
 simp only [Value.okWide,ht,Cell.okWide,Cell.ok]at hv
 obtain⟨_,_,_,_,row,cells,hs,_⟩:=hv
 unfold World.shape? at hs
 rcases Nat.lt_or_ge x.block W.heap.size with h|h
 ·exact h
 ·rw [Array.getElem?_eq_none h]at hs
  simp at hs
theorem open_bytes {t e:TypeId} {r:Reach} {base:Nat} {v:Value} {d:DataW H} {p:List MemPlace} (ht:P.underlying t=some (.slice e)) (he:P.underlying e=some (.int .u8)) (hc:P.cellsOf e=1)
  (hv:Value.okWide P W r base t v) (h:DataW.Trod enc P W b0 sp held t v d p) :
  ∃A c l,v=.slice A (List.length l) c∧RdB W A l∧l.length≤c∧c≤9223372036854775807∧(∀a,A=some a→a.block<W.heap.size):=by
 obtain⟨a,len,cap,rfl⟩:=okWide_slice ht hv
 obtain⟨fuel,hf⟩:=h
 rcases open_ints ht he hc hf with ⟨hcs,_⟩|⟨x,l,c,zs,hcs,_,hl,hm,hz,_,hcell,hwz⟩
 ·simp [Value.cells]at hcs
  obtain⟨rfl,rfl,rfl⟩:=hcs
  exact⟨none,0,[],rfl,RdB.nil _ _,by simp,by simp,fun a e=>by cases e⟩
 ·simp [Value.cells]at hcs
  obtain⟨rfl,rfl,rfl⟩:=hcs
  obtain⟨l,hl'⟩:=list_u8 (zs.take len) (fun z hzz=>hwz z (List.mem_of_mem_take hzz))
  have hlen:len≤zs.length:=by
   rw[hz];split
   ·exact hl
   ·exact kQh _
  have hll:l.length=len:=by
   have:(zs.take len).length=l.length:=by rw [hl'];simp
   rw[kQp]at this
   omega
  rcases Nat.eq_zero_or_pos len with h0|h0
  ·obtain rfl:l=[]:=List.eq_nil_of_length_eq_zero (by omega)
   subst h0
   by_cases hzl:0<zs.length
   ·refine⟨some x,cap,[],rfl,RdB.nil _ _,by simp,by simpa [maxLen]using hm,fun a e=>?_⟩
    cases e
    have:=World.block_lt_of_cell? W _ (hcell 0 hzl)
    simpa [Addr.add]using this
   ·refine⟨some x,cap,[],rfl,RdB.nil _ _,by simp,by simpa [maxLen]using hm,fun a e=>?_⟩
    cases e
    exact qKX ht hv
  ·have hx:x.spot=none:=by
    have:=hcell 0 (by omega)
    unfold World.cell? at this
    by_cases hs:x.spot=none
    ·exact hs
    ·exfalso
     have h1:((x.add 0).spot.isSome)=true:=by
      simp [Addr.add]
      cases hsp:x.spot with
      | none=>exact absurd hsp hs
      | some _=>rfl
     rw[h1]at this
     split at this<;>simp at this
   obtain⟨bb,oo,ss⟩:=x
   simp at hx
   subst hx
   refine⟨some ⟨bb,oo,none⟩,cap,l,by rw [hll],fun j hj=>⟨bb,oo,rfl,?_⟩,by omega,by simpa [maxLen]using hm,fun a e=>?_⟩
   ·have:=hcell j (by omega)
    rw[qXZ]at this
    rw[this]
    congr 2
    have h3:zs.getD j 0=(zs.take len).getD j 0:=by
     rw[kQa,kQa,List.getElem?_take,if_pos (by omega)]
    rw[h3,hl',kQa,kQa,List.getElem?_map,kQi hj]
    rfl
   ·cases e
    have:=World.block_lt_of_cell? W _ (hcell 0 (by omega))
    simpa [Addr.add]using this
end
end Go.Proofs.YtlocplkjokoknaaGreat
namespace Go.Proofs.YtlocplkjokoknaaGreat
open Go.ChangeShapes Go.WideShapes Go.ChangeAt Go.RowKit
section
variable {H:Type} {enc:TypeId×Value→H} {P:Program} {W:World} {b0:Nat} {sp:Nat→Bool} {held:Bool}
theorem spot_none {w:World} {a:Addr} {v:Value} (h:w.cell? a=some v):a.spot=none:=by
 unfold World.cell? at h
 cases hs:a.spot with
 | none=>rfl
 | some x=>
  exfalso
  have h1:(a.spot.isSome)=true:=by rw [hs];rfl
  rw[h1]at h
  split at h<;>simp at h
theorem qK4 {k:IntKind} (zs:List Int):(lits (H:=H) k zs).length=zs.length:=by simp [lits]
theorem len_bytes {t e:TypeId} {k:IntKind} {d:DataW H} {p:List MemPlace} {A:Option Addr} {n c:Nat} (ht:P.underlying t=some (.slice e)) (he:P.underlying e=some (.int k)) (hc:P.cellsOf e=1) (hbo:0<P.bytesOf e)
  (h:DataW.Trod enc P W b0 sp held t (.slice A n c) d p) (hw:∀el s,d=.slice el s→(el.length+s.length)*P.bytesOf e≤reachBytes):n≤140737488351232:=by
 obtain⟨fuel,hf⟩:=h
 rcases open_ints ht he hc hf with ⟨hcs,_⟩|⟨x,l,c,zs,hcs,_,hl,hm,hz,hx,_,_⟩
 ·simp [Value.cells]at hcs
  omega
 ·simp [Value.cells]at hcs
  obtain⟨rfl,rfl,rfl⟩:=hcs
  have h1:=hw _ _ (congrArg Prod.fst hx)
  rw[qK4,qK4]at h1
  have h2:(List.take n zs).length+(List.drop n zs).length=zs.length:=by simp;omega
  have h3:n≤zs.length:=by
   rw[hz];split
   ·exact hl
   ·exact kQh _
  rw[h2]at h1
  have h4:zs.length≤zs.length*P.bytesOf e:=Nat.le_mul_of_pos_right _ hbo
  unfold reachBytes at h1
  omega
end
end Go.Proofs.YtlocplkjokoknaaGreat
namespace Go.Proofs.YtlocplkjokoknaaGreat
open Go.ChangeShapes Go.WideShapes Go.ChangeAt Go.RowKit Go.Deep
section
variable {H:Type} {enc:TypeId×Value→H} {P:Program} {W:World} {b0:Nat} {sp:Nat→Bool} {held:Bool}
theorem trod_bytes {t e n fuel:Nat} {cs:List Value} {x:DataW H×List MemPlace} (ht:P.underlying t=some (.array n e)) (he:P.underlying e=some (.int .u8)) (hc:P.cellsOf e=1) (hl:cs.length=n)
  (h:DataW.trod enc P W b0 sp held fuel t cs=some x):∃l:List UInt8,l.length=n∧cs=B8 l:=by
 obtain⟨xs,m,_,_,_,hxl,hel⟩:=DataW.trod_array ht h
 have key:∀i,i<n→∃x:UInt8,cs[i]?=some (.int .u8 (x.toNat:Int)):=by
  intro i hi
  have:=hel i hi
  rw[hc,Nat.mul_one,kQi (show i<xs.length by omega)]at this
  obtain⟨z,hz,_,hw⟩:=DataW.trod_int he this
  obtain⟨x,hx⟩:=wf_u8_nat hw
  refine⟨x,?_⟩
  rw[←hx]
  have h3:(cs.drop i).take 1=[.int .u8 z]:=hz
  have h4:((cs.drop i).take 1)[0]?=some (.int .u8 z):=by rw [h3];rfl
  simpa [List.getElem?_take,List.getElem?_drop]using h4
 refine⟨cs.map fun v=>match v with | .int _ z=>UInt8.ofNat z.toNat|_=>0,by simp [hl],?_⟩
 apply List.ext_getElem?
 intro i
 rcases Nat.lt_or_ge i n with hi|hi
 ·obtain⟨x,hx⟩:=key i hi
  rw[hx,B8,List.getElem?_map,List.getElem?_map,hx]
  simp
 ·rw [List.getElem?_eq_none (by omega),List.getElem?_eq_none (by simp [B8];omega)]
theorem open_mems {t e eb:TypeId} {f0 f1 f2:Field} {r:Reach} {base:Nat} {v:Value} {d:DataW H} {p:List MemPlace} (ht:P.underlying t=some (.slice e)) (he:P.underlying e=some (.struct #[f0,f1,f2])) (ce:P.cellsOf e=34)
  (ho:f0.offset=0∧f1.offset=1∧f2.offset=33) (hc:P.cellsOf f0.type=1∧P.cellsOf f1.type=32∧P.cellsOf f2.type=1)
  (h0:P.underlying f0.type=some (.int .i64)) (h1:P.underlying f1.type=some (.array 32 eb)) (h2:P.underlying f2.type=some .bool) (hb:P.underlying eb=some (.int .u8)) (hcb:P.cellsOf eb=1)
  (hv:Value.okWide P W r base t v) (h:DataW.Trod enc P W b0 sp held t v d p) :
  ∃A c zs,v=.slice A (List.length zs) c∧RdM W A zs∧zs.length≤c∧(zs≠[]→∀a,A=some a→a.block<W.heap.size):=by
 obtain⟨a,len,cap,rfl⟩:=okWide_slice ht hv
 obtain⟨fuel,hf⟩:=h
 rcases Go.Deep.open_slice ht hf with ⟨hcs,_⟩|⟨x,l,c,m,n,D,Pl,hcs,_,hl,hm,hmm,_,hrow⟩
 ·simp [Value.cells]at hcs
  obtain⟨rfl,rfl,rfl⟩:=hcs
  exact⟨none,0,[],rfl,RdM.nil _ _,by simp,fun hh=>absurd rfl hh⟩
 ·simp [Value.cells]at hcs
  obtain⟨rfl,rfl,rfl⟩:=hcs
  have hlm:len≤m:=by rw [hmm];split<;>omega
  obtain⟨o0,o1,o2⟩:=ho
  obtain⟨c0,c1,c2⟩:=hc
  have hx:0<len→x.spot=none:=by
   intro h0
   obtain⟨cs',g1,_⟩:=hrow 0 (by omega)
   rw[ce]at g1
   obtain⟨_,hlen,hcell⟩:=World.cells?_some g1
   have e0:=hcell 0 (by omega)
   rw[Nat.zero_mul]at e0
   have ea:(x.add 0).add 0=x:=by unfold Addr.add;simp
   rw[ea,kQi (by omega)]at e0
   exact spot_none e0
  have each:∀i,i<len→∃z:Mem,OkM z∧∃b o,some x=some (⟨b,o,none⟩:Addr)∧W.rangeAt b (o+i*34) (RowM z):=by
   intro i hi
   obtain⟨cs',g1,g2⟩:=hrow i (by omega)
   rw[ce]at g1
   obtain⟨_,hlen,hcell⟩:=World.cells?_some g1
   obtain⟨xs,k,hk,hxy,_,hxl,hfl⟩:=DataW.trod_struct he g2
   match xs,hxl with
   | [y0,y1,y2],_=>
    have t0:=hfl 0 f0 rfl
    have t1:=hfl 1 f1 rfl
    have t2:=hfl 2 f2 rfl
    simp [o0,o1,o2,c0,c1,c2]at t0 t1 t2
    obtain⟨z0,hz0,_,w0⟩:=DataW.trod_int h0 t0
    obtain⟨kk,hkl,hkk⟩:=trod_bytes h1 hb hcb (by simp;omega) t1
    obtain⟨q2,hq2,_⟩:=DataW.trod_bool h2 t2
    have hs:=hx (by omega)
    obtain⟨bb,oo,ss⟩:=x
    simp only at hs
    subst hs
    have hrowM:cs'=RowM ⟨z0,kk,q2⟩:=by
     have e1:cs'=cs'.take 1++((cs'.drop 1).take 32++(cs'.drop 33).take 1):=by
      have e3:(cs'.drop 33).take 1=cs'.drop 33:=kQn (by simp;omega)
      have e4:cs'.drop 1=(cs'.drop 1).take 32++(cs'.drop 1).drop 32:=(List.take_append_drop 32 _).symm
      rw[e3,show cs'.drop 33=(cs'.drop 1).drop 32 by rw [List.drop_drop],←e4,List.take_append_drop]
     rw[e1,hz0,List.drop_one,hkk,hq2]
     rfl
    refine⟨⟨z0,kk,q2⟩,⟨hkl,bounds_i64 w0⟩,bb,oo,rfl,fun j v hj=>?_⟩
    rw[←hrowM]at hj
    have hcj:=hcell j (by rw [←hlen];exact(List.getElem?_eq_some_iff.1 hj).1)
    rw[qXZ,qXZ]at hcj
    rw[hcj,←hj]
  have key:∀q,q≤len→∃zs:List Mem,zs.length=q∧RdM W (some x) zs:=by
   intro q
   induction q with
   | zero=>intro _;exact⟨[],rfl,RdM.nil _ _⟩
   | succ q ih=>
    intro hq
    obtain⟨zs,hzs,hrd⟩:=ih (by omega)
    obtain⟨z,hz⟩:=each q (by omega)
    refine⟨zs++[z],by simp [hzs],fun j y hj=>?_⟩
    by_cases hlt:j<zs.length
    ·rw [List.getElem?_append_left hlt]at hj
     exact hrd j y hj
    ·have hj2:j=q:=by
      have:=(List.getElem?_eq_some_iff.1 hj).1
      simp at this
      omega
     subst hj2
     rw[kQq (by omega),hzs]at hj
     simp at hj
     subst hj
     exact hz
  obtain⟨zs,hzs,hrd⟩:=key len (kQh _)
  refine⟨some x,cap,zs,by rw [hzs],hrd,by rw [hzs];exact hl,fun hne a ha=>?_⟩
  obtain⟨z,hz⟩:∃z,zs[0]?=some z:=by
   cases zs with
   | nil=>exact absurd rfl hne
   | cons z l=>exact⟨z,rfl⟩
  obtain⟨_,b,o,e,hr⟩:=hrd 0 z hz
  have h3:=World.block_lt_of_cell? W _ (hr 0 _ rfl)
  rw[ha]at e
  cases e
  exact h3
end
end Go.Proofs.YtlocplkjokoknaaGreat
