/- Small laws on memory, of whatever program: what a step may have written (Upd), a block that is known whole (Blk), a row that the call owns (Row). -/
import Derived.WalkKit
import Derived.Deep.AppendLies
import Derived.Deep.Draws
import Derived.Lib.Hide
import Derived.Lib.AppendStr
import Derived.Maps.AppendAt
import Derived.Laws.Rows
import Derived.OwnWalk
import Derived.Laws.BytesArg
import Derived.Laws.BitsAllLaws
set_option linter.unusedVariables false
set_option linter.unusedSimpArgs false
set_option linter.unusedSectionVars false
namespace Go.Proofs.YtfkenhihcmmgkaaGreatDoor
open Go.RowKit
theorem Hi {p:Prop} (h:p):RowKit.Hid p:=h
structure Upd (fp:List Nat) (w w':World):Prop where
 os:w'.os=w.os
 tape:w'.tape=w.tape
 output:w'.output=w.output
 size:w.heap.size≤w'.heap.size
 block : ∀ k,k<w.heap.size→k∉fp→w'.heap[k]? =w.heap[k]?
theorem Upd.refl (fp:List Nat) (w:World):Upd fp w w:=⟨rfl,rfl,rfl,Nat.le_refl _,fun _ _ _=>rfl⟩
theorem Upd.mono {fp fp':List Nat} {w w':World} (h:Upd fp w w') (hs : ∀ k,k∈fp→k∈fp'∨w.heap.size≤k):Upd fp' w w' :=
 ⟨h.os,h.tape,h.output,h.size,fun k hk hn=>h.block k hk fun hm=>(hs k hm).elim hn (fun h'=>by omega)⟩
theorem Upd.trans {fp fp':List Nat} {a b c:World} (h:Upd fp a b) (k:Upd fp' b c) (hs : ∀ k,k∈fp'→k∈fp∨a.heap.size≤k):Upd fp a c :=
 ⟨k.os.trans h.os,k.tape.trans h.tape,k.output.trans h.output,Nat.le_trans h.size k.size,fun i hi hn =>
  (k.block i (Nat.lt_of_lt_of_le hi h.size) fun hm=>(hs i hm).elim hn (fun h'=>by omega)).trans (h.block i hi hn)⟩
theorem Upd.then {fp:List Nat} {a b c:World} (h:Upd fp a b) (k:Upd fp b c):Upd fp a c:=h.trans k fun _ h => .inl h
theorem Upd.drew {fp:List Nat} {a w:World} (h:Upd fp a w):Upd fp a w.drew:=⟨h.os,h.tape,h.output,h.size,h.block⟩
theorem Upd.drewN {fp:List Nat} {a w:World} (h:Upd fp a w) (n:Nat):Upd fp a (w.drewN n):=⟨h.os,h.tape,h.output,h.size,h.block⟩
theorem Upd.alloc {fp:List Nat} {a w:World} (h:Upd fp a w) (o:Obj):Upd fp a (w.alloc o) :=
 ⟨h.os,h.tape,h.output,Nat.le_trans h.size (by simp),fun k hk hn=>(Below.heap_alloc _ _ _ (Nat.lt_of_lt_of_le hk h.size)).trans (h.block k hk hn)⟩
theorem Upd.setCell {fp:List Nat} {a w:World} (h:Upd fp a w) {p:Addr} (hp:p.block∈fp∨a.heap.size≤p.block) (u:Value):Upd fp a (w.setCell p u) :=
 ⟨h.os,h.tape,h.output,by rw [World.size_setCell]; exact h.size,fun k hk hn=>(Below.heap_setCell _ _ _ _ (fun e=>by subst e; exact hp.elim hn (fun h'=>by omega))).trans (h.block k hk hn)⟩
theorem Upd.grown {fp:List Nat} {a w w':World} {row:Option Nat} (h:Upd fp a w) (hg:w.grownBy w' row) (hr : ∀ k,row=some k→k∈fp∨a.heap.size≤k):Upd fp a w' :=
 ⟨hg.os.trans h.os,hg.tape.trans h.tape,hg.output.trans h.output,Nat.le_trans h.size hg.size,fun k hk hn =>
  (hg.block k (Nat.lt_of_lt_of_le hk h.size) (fun e=>(hr k e.symm).elim hn (fun h'=>by omega))).trans (h.block k hk hn)⟩
theorem Upd.below {w w':World} (h:Upd [] w w'):Below w.heap.size w w':=⟨h.os,h.tape,h.output,h.size,fun k hk=>h.block k hk (by simp)⟩
theorem Upd.of_below {w w':World} (h:Below w.heap.size w w'):Upd [] w w':=⟨h.os,h.tape,h.output,h.size,fun k hk _=>h.block k hk⟩
theorem Upd.below' {fp:List Nat} {B:Nat} {w w':World} (h:Upd fp w w') (hB:B≤w.heap.size) (hf : ∀ k,k∈fp→B≤k):Below B w w' :=
 ⟨h.os,h.tape,h.output,h.size,fun k hk=>h.block k (by omega) (fun hm=>by have:=hf k hm; omega)⟩
theorem Upd.cell {fp:List Nat} {w w':World} (h:Upd fp w w') {p:Addr} (hp:p.block<w.heap.size) (hn:p.block∉fp):w'.cell? p=w.cell? p:=World.cell?_of_block (w:=w) (h.block p.block hp hn)
theorem Upd.at {fp:List Nat} {w w':World} (h:Upd fp w w') {b:Nat} (hb:b<w.heap.size) (hn:b∉fp) (o:Nat):w'.cell? ⟨b,o,none⟩=w.cell? ⟨b,o,none⟩:=h.cell (p:=⟨b,o,none⟩) hb hn
theorem Upd.frz {fp:List Nat} {w w':World} (h:Upd fp w w') {p:Addr} (hp:p.block<w.heap.size) (hn:p.block∉fp):w'.frozen? p=w.frozen? p:=World.frozen?_of_block (w:=w) (h.block p.block hp hn)
def Blk (w:World) (b:Nat) (cs:List Value) (t:TypeId):Prop:=w.heap[b]? =some (.cells cs.toArray t (0,0))
theorem Blk.lt {w:World} {b:Nat} {cs:List Value} {t:TypeId} (h:Blk w b cs t):b<w.heap.size:=(Array.getElem?_eq_some_iff.1 h).1
theorem Blk.cell {w:World} {b:Nat} {cs:List Value} {t:TypeId} (h:Blk w b cs t) (i:Nat) {v:Value} (hi:cs[i]? =some v):w.cell? ⟨b,i,none⟩=some v:=by
 unfold Blk at h;simp [World.cell?,h,hi]
theorem Blk.all {w:World} {b:Nat} {cs:List Value} {t:TypeId} (h:Blk w b cs t) (i:Nat):w.cell? ⟨b,i,none⟩=cs[i]?:=by
 unfold Blk at h;simp [World.cell?,h]
theorem Blk.frz {w:World} {b:Nat} {cs:List Value} {t:TypeId} (h:Blk w b cs t) (i:Nat):w.frozen? ⟨b,i,none⟩=false:=by
 unfold Blk at h;simp [World.frozen?,h]
theorem Blk.upd {w w':World} {b:Nat} {cs:List Value} {t:TypeId} {fp:List Nat} (h:Blk w b cs t) (hu:Upd fp w w') (hn:b∉fp):Blk w' b cs t:=(hu.block b h.lt hn).trans h
theorem Blk.set {w:World} {b:Nat} {cs:List Value} {t:TypeId} (h:Blk w b cs t) (i:Nat) (v:Value):Blk (w.setCell ⟨b,i,none⟩ v) b (cs.set i v) t:=by
 unfold Blk at h ⊢;simp [World.setCell,Array.getElem?_modify,h]
theorem Blk.setFar {w:World} {b:Nat} {cs:List Value} {t:TypeId} (h:Blk w b cs t) {a:Addr} (v:Value) (hn:b≠a.block):Blk (w.setCell a v) b cs t :=
 (Below.heap_setCell _ _ _ _ hn).trans h
theorem Blk.alloc {w:World} {b:Nat} {cs:List Value} {t:TypeId} (h:Blk w b cs t) (o:Obj):Blk (w.alloc o) b cs t:=(Below.heap_alloc _ _ _ h.lt).trans h
theorem Blk.new (w:World) (cs:List Value) (t:TypeId):Blk (w.alloc (.cells cs.toArray t)) w.heap.size cs t:=heap_alloc_new w _
theorem Blk.drew {w:World} {b:Nat} {cs:List Value} {t:TypeId} (h:Blk w b cs t):Blk w.drew b cs t:=h
theorem Blk.drewN {w:World} {b:Nat} {cs:List Value} {t:TypeId} (h:Blk w b cs t) (n:Nat):Blk (w.drewN n) b cs t:=h
theorem Blk.grown {w w':World} {b:Nat} {cs:List Value} {t:TypeId} {row:Option Nat} (h:Blk w b cs t) (hg:w.grownBy w' row) (hn:row≠some b):Blk w' b cs t:=(hg.block b h.lt (Ne.symm hn)).trans h
def Row (w:World) (e:TypeId) (size:Nat) (v:Value) (n:Nat) (xs:List Value):Prop:=w.ownsRow 0 e size v n xs
theorem Row.nil (w:World) (e:TypeId) (size:Nat):Row w e size (.slice none 0 0) 0 []:=World.ownsRow_nil w 0 e size
theorem Row.upd {w w':World} {e:TypeId} {size:Nat} {v:Value} {n:Nat} {xs:List Value} {fp:List Nat} (h:Row w e size v n xs) (hu:Upd fp w w') (hn : ∀ k,v.ownBlock=some k→k∉fp):Row w' e size v n xs:=by
 refine ⟨h.1,?_⟩;rcases h.2 with h2 | ⟨g,cap,cur,hv,hb,hg,hr⟩
 · exact .inl h2
 · exact .inr ⟨g,cap,cur,hv,hb,(hu.block g (Array.getElem?_eq_some_iff.1 hg).1 (hn g (by rw [hv]; rfl))).trans hg,hr⟩
theorem Row.setFar {w:World} {e:TypeId} {size:Nat} {v:Value} {n:Nat} {xs:List Value} (h:Row w e size v n xs) {a:Addr} (u:Value) (hn:v.ownBlock≠some a.block):Row (w.setCell a u) e size v n xs :=
 h.upd ((Upd.refl [a.block] w).setCell (.inl (by simp)) u) (fun k hk hm=>hn (by simp at hm; rw [hk,hm]))
theorem Row.alloc {w:World} {e:TypeId} {size:Nat} {v:Value} {n:Nat} {xs:List Value} (h:Row w e size v n xs) (o:Obj):Row (w.alloc o) e size v n xs :=
 h.upd ((Upd.refl [] w).alloc o) (fun _ _ h=>by simp at h)
theorem Row.drew {w:World} {e:TypeId} {size:Nat} {v:Value} {n:Nat} {xs:List Value} (h:Row w e size v n xs):Row w.drew e size v n xs:=h
theorem Row.drewN {w:World} {e:TypeId} {size:Nat} {v:Value} {n:Nat} {xs:List Value} (h:Row w e size v n xs) (k:Nat):Row (w.drewN k) e size v n xs:=h
theorem Row.lt {w:World} {e:TypeId} {size:Nat} {v:Value} {n:Nat} {xs:List Value} (h:Row w e size v n xs) : ∀ k,v.ownBlock=some k→k<w.heap.size:=fun k hk=>(World.ownsRow.lt h k hk).2
theorem Row.len {w:World} {e:TypeId} {size:Nat} {v:Value} {n:Nat} {xs:List Value} (h:Row w e size v n xs):xs.length=n*size:=h.1
theorem Row.form {w:World} {e:TypeId} {size:Nat} {v:Value} {n:Nat} {xs:List Value} (h:Row w e size v n xs) : ∃ a cap,v = .slice a n cap:=by
 rcases h.2 with ⟨rfl,rfl⟩ | ⟨g,cap,cur,rfl,_⟩
 · exact ⟨none,0,rfl⟩
 · exact ⟨_,cap,rfl⟩
theorem Row.form' {w:World} {e:TypeId} {size:Nat} {v:Value} {n:Nat} {xs:List Value} (h:Row w e size v n xs) (hn:0<n) : ∃ g cap,v = .slice (some ⟨g,0,none⟩) n cap∧g<w.heap.size∧n≤cap:=by
 rcases h.2 with ⟨rfl,rfl⟩ | ⟨g,cap,cur,rfl,_,hg,hc,_⟩
 · omega
 · exact ⟨g,cap,rfl,(Array.getElem?_eq_some_iff.1 hg).1,hc⟩
theorem Row.cell {w:World} {e:TypeId} {size g n cap:Nat} {xs:List Value} (h:Row w e size (.slice (some ⟨g,0,none⟩) n cap) n xs) (j:Nat) {u:Value} (hu:xs[j]? =some u):w.cell? ⟨g,j,none⟩=some u:=by
 have hj:j<n*size:=by rw [← h.1]; exact (List.getElem?_eq_some_iff.1 hu).1
 rw [World.ownsRow.cellAt h j hj]; exact hu
theorem Row.frz {w:World} {e:TypeId} {size g n cap:Nat} {xs:List Value} (h:Row w e size (.slice (some ⟨g,0,none⟩) n cap) n xs) (j:Nat):w.frozen? ⟨g,j,none⟩=false:=World.ownsRow.frozenAt h j
theorem Row.set {w:World} {e:TypeId} {size g n cap:Nat} {xs:List Value} (h:Row w e size (.slice (some ⟨g,0,none⟩) n cap) n xs) (j:Nat) (u:Value):Row (w.setCell ⟨g,j,none⟩ u) e size (.slice (some ⟨g,0,none⟩) n cap) n (xs.set j u):=(World.ownsRow.stored h j u).1
theorem Row.of_owns {w:World} {base:Nat} {e:TypeId} {size:Nat} {v:Value} {n:Nat} {xs:List Value} (h:w.ownsRow base e size v n xs):Row w e size v n xs:=by
 refine ⟨h.1,?_⟩;rcases h.2 with h2 | ⟨g,cap,cur,hv,hb,hr⟩
 · exact .inl h2
 · exact .inr ⟨g,cap,cur,hv,Nat.zero_le _,hr⟩
theorem Row.new (w:World) (cs:List Value) (e:TypeId) (n size:Nat) (hm:n≤maxLen) (hs:cs.length=n*size):Row (w.alloc (.cells cs.toArray e)) e size (.slice (some ⟨w.heap.size,0,none⟩) n n) n cs:=by
 have h:=World.ownsRow_lit (base:=0) (e:=e) (size:=size) w cs.toArray n (Nat.zero_le _) hm (by simpa using hs);exact h
def Later (w:World) (v v':Value):Prop:=v'.ownBlock=v.ownBlock ∨ ∃ g,v'.ownBlock=some g∧w.heap.size≤g
theorem Later.refl (w:World) (v:Value):Later w v v := .inl rfl
theorem Later.trans {w w':World} {u v x:Value} (h:Later w u v) (hs:w.heap.size≤w'.heap.size) (h':Later w' v x):Later w u x:=by
 rcases h' with h' | ⟨g,h1,h2⟩
 · rcases h with h | ⟨g,h1,h2⟩
   · exact .inl (h'.trans h)
   · exact .inr ⟨g,h'.trans h1,h2⟩
 · exact .inr ⟨g,h1,Nat.le_trans hs h2⟩
theorem Later.ne {w:World} {v v':Value} {b:Nat} (h:Later w v v') (hb:b<w.heap.size) (hn:v.ownBlock≠some b):v'.ownBlock≠some b:=by
 rcases h with h | ⟨g,h1,h2⟩
 · rw [h]; exact hn
 · rw [h1]; simp only [ne_eq,Option.some.injEq]; omega
def LaterFp (w:World) (fp fp':List Nat):Prop := ∀ k,k∈fp'→k∈fp∨w.heap.size≤k
theorem LaterFp.refl (w:World) (fp:List Nat):LaterFp w fp fp:=fun _ h => .inl h
theorem LaterFp.trans {w w':World} {a b c:List Nat} (h:LaterFp w a b) (hs:w.heap.size≤w'.heap.size) (h':LaterFp w' b c):LaterFp w a c:=fun k hk=>by
 rcases h' k hk with h1 | h1
 · exact h k h1
 · exact .inr (Nat.le_trans hs h1)
theorem Later.fp {w:World} {v v':Value} (h:Later w v v'):LaterFp w v.ownBlock.toList v'.ownBlock.toList:=fun k hk=>by
 rcases h with h | ⟨g,h1,h2⟩
 · rw [← h]; exact .inl hk
 · rw [h1] at hk; simp at hk; exact .inr (by omega)
section
variable {P:Program} (w:World)
theorem ziN (t ty e:TypeId) (i:TypeInfo) (z:Value) (size bytes:Nat) (ht:P.underlying t=some (.slice e)) (hi:P.info? e=some i) (hz:i.zero=some z)
 (hsize:i.size=size) (hby:i.bytes=bytes) (hzs:z.cells.size=size) (hsz:0<size)
 (v:Value) (n:Nat) (xs:List Value) (hown:Row w e size v n xs)
 (a:Addr) (m c:Nat) (news:List Value) (hl:news.length=m*size) (hnews : ∀ j u,news[j]? =some u→w.cell? (a.add j)=some u) (h1 : ∀ u∈news,u.oneCell'=true)
 (h63:n+m≤maxLen) (hbytes:(n+m)*bytes≤140737488355328) :
 ∃ v' w',(Builtin.append_ #[t,t] ty #[v,.slice (some a) m c]).run P w = .ok v' w'∧Row w' e size v' (n+m) (xs++news)∧Upd v.ownBlock.toList w w'∧Later w v v':=by
 obtain ⟨v',w',h2,h3,h4,_,h6⟩:=run_append_own_at (P:=P) w 0 t ty e i z size bytes ht hi hz hsize hby hzs hsz v n xs hown a m c news hl hnews h1 h63 hbytes (Nat.zero_le _);refine ⟨v',w',h2,h3,(Upd.refl _ w).grown h4 (fun k hk => .inl (by simp [hk])),?_⟩;rcases h6 with h6 | h6
 · exact .inl h6
 · exact .inr ⟨_,h6,Nat.le_refl _⟩
theorem zaQ (t u ty e:TypeId) (i:TypeInfo) (ht:P.underlying t=some (.slice e)) (hu:P.underlying u=some .string) (hi:P.info? e=some i) (hz:i.zero=some (.int .u8 0))
 (hsize:i.size=1) (hby:i.bytes=1) (v:Value) (n:Nat) (xs:List Value) (hown:Row w e 1 v n xs) (s:ByteArray)
 (h63:n+s.size≤maxLen) (hbytes:n+s.size≤140737488355328) :
 ∃ v' w',(Builtin.append_ #[t,u] ty #[v,.string s]).run P w = .ok v' w'∧Row w' e 1 v' (n+s.size) (xs++Lib.strCells s)∧Upd v.ownBlock.toList w w'∧Later w v v':=by
 obtain ⟨v',w',h2,h3,h4,_⟩:=Lib.run_append_own_string (P:=P) w 0 t u ty e i ht hu hi hz hsize hby v n xs hown s h63 hbytes (Nat.zero_le _);refine ⟨v',w',h2,h3,(Upd.refl _ w).grown h4 (fun k hk => .inl (by simp [hk])),?_⟩;have hsmall:n+s.size≤9223372036854775807:=by simp only [maxLen] at h63; omega
 rcases hown.2 with ⟨rfl,rfl⟩ | ⟨g,cap,cur,rfl,hbg,hg,hnc,hcm,hcs,htake⟩
 · have hx:xs=[]:=List.eq_nil_of_length_eq_zero (by simpa using hown.1);subst hx;obtain ⟨v2,w2,k2,k3,_,_⟩:=Lib.run_append_own_string (P:=P) w w.heap.size t u ty e i ht hu hi hz hsize hby (.slice none 0 0) 0 [] (World.ownsRow_nil w _ _ _) s h63 hbytes (Nat.le_refl _);rw [h2] at k2;cases k2;cases hv:v'.ownBlock with
   | none=>exact .inl (by rw [hv]; rfl)
   | some g=>exact .inr ⟨g,hv,(World.ownsRow.lt k3 g hv).1⟩
 · by_cases hroom:n+s.size≤cap
   · have hr:=Lib.run_append_room_string (P:=P) w t u ty e i ht hu hi hsize g n cap cur hg s hroom (by omega);rw [h2] at hr;cases hr;exact .inl rfl
   · have holds : ∀ j u,xs[j]? =some u→w.cell? ((⟨g,0,none⟩:Addr).add j)=some u:=World.ownsRow.cells hown (g:=g) rfl;have hxl:xs.length=n:=(by simpa using hown.1);have hr:=Lib.run_append_grow_string (P:=P) w t u ty e i (.int .u8 0) ht hu hi hz ⟨g,0,none⟩ n cap xs (by rw [hsize]; simpa using hxl) holds s (by omega) (by omega) (by rw [hby]; exact growslice_fits (by omega) (by omega));rw [h2] at hr;cases hr;exact .inr ⟨_,rfl,Nat.le_refl _⟩
theorem zhj {o:Oper} {a:Act} {K:Act→World→Prop} {Q:Exit→Act→World→Prop} (s x:Operand) (t:TypeId)
 (ho:o.op = .call { callee := .builtin .append,args := #[s,x],argTypes := #[t,t] })
 (e:TypeId) (i:TypeInfo) (z:Value) (size bytes:Nat) (ht:P.underlying t=some (.slice e)) (hi:P.info? e=some i) (hz:i.zero=some z)
 (hsize:i.size=size) (hby:i.bytes=bytes) (hzs:z.cells.size=size) (hsz:0<size)
 (v:Value) (n:Nat) (xs:List Value) (hs:a.eval s=v) (hown:Row w e size v n xs)
 (ad:Addr) (m c:Nat) (news:List Value) (hx:a.eval x = .slice (some ad) m c) (hl:news.length=m*size) (hnews : ∀ j u,news[j]? =some u→w.cell? (ad.add j)=some u) (h1 : ∀ u∈news,u.oneCell'=true)
 (h63:n+m≤maxLen) (hbytes:(n+m)*bytes≤140737488355328)
 (h : ∀ v' w',Row w' e size v' (n+m) (xs++news)→Upd v.ownBlock.toList w w'→Later w v v'→K (a.put o.dst v') w'):o.wp P a w K Q:=by
 obtain ⟨v',w',hr,h2,h3,h4⟩:=ziN (P:=P) w t o.type e i z size bytes ht hi hz hsize hby hzs hsz v n xs hown ad m c news hl hnews h1 h63 hbytes;unfold Oper.wp execOp;simp only [ho,resolve,invoke,builtin,Sem.run_bind,Sem.run_pure,Result.andThen_ok,List.map_toArray,List.map_cons,List.map_nil,hs,hx,hr];exact h v' w' h2 h3 h4
theorem zb8 {o:Oper} {a:Act} {K:Act→World→Prop} {Q:Exit→Act→World→Prop} (sl x:Operand) (t u:TypeId)
 (ho:o.op = .call { callee := .builtin .append,args := #[sl,x],argTypes := #[t,u] })
 (e:TypeId) (i:TypeInfo) (ht:P.underlying t=some (.slice e)) (hu:P.underlying u=some .string) (hi:P.info? e=some i) (hz:i.zero=some (.int .u8 0))
 (hsize:i.size=1) (hby:i.bytes=1) (v:Value) (n:Nat) (xs:List Value) (hs:a.eval sl=v) (hown:Row w e 1 v n xs) (s:ByteArray) (hx:a.eval x = .string s)
 (h63:n+s.size≤maxLen) (hbytes:n+s.size≤140737488355328)
 (h : ∀ v' w',Row w' e 1 v' (n+s.size) (xs++Lib.strCells s)→Upd v.ownBlock.toList w w'→Later w v v'→K (a.put o.dst v') w'):o.wp P a w K Q:=by
 obtain ⟨v',w',hr,h2,h3,h4⟩:=zaQ (P:=P) w t u o.type e i ht hu hi hz hsize hby v n xs hown s h63 hbytes;unfold Oper.wp execOp;simp only [ho,resolve,invoke,builtin,Sem.run_bind,Sem.run_pure,Result.andThen_ok,List.map_toArray,List.map_cons,List.map_nil,hs,hx,hr];exact h v' w' h2 h3 h4
theorem zH {ops:Array Oper} {rest:List Oper} {o:Oper} {a:Act} {Q:Exit→Act→World→Prop} (hgd:o.guard=none) (s x:Operand) (t:TypeId)
 (ho:o.op = .call { callee := .builtin .append,args := #[s,x],argTypes := #[t,t] })
 (e:TypeId) (i:TypeInfo) (z:Value) (size bytes:Nat) (ht:P.underlying t=some (.slice e)) (hi:P.info? e=some i) (hz:i.zero=some z)
 (hsize:i.size=size) (hby:i.bytes=bytes) (hzs:z.cells.size=size) (hsz:0<size)
 (v:Value) (n:Nat) (xs:List Value) (hs:a.eval s=v) (hown:Row w e size v n xs)
 (ad:Addr) (m c:Nat) (news:List Value) (hx:a.eval x = .slice (some ad) m c) (hl:news.length=m*size) (hnews : ∀ j u,news[j]? =some u→w.cell? (ad.add j)=some u) (h1 : ∀ u∈news,u.oneCell'=true)
 (h63:n+m≤maxLen) (hbytes:(n+m)*bytes≤140737488355328)
 (h : ∀ v' w',Row w' e size v' (n+m) (xs++news)→Upd v.ownBlock.toList w w'→Later w v v'→wpList P ops Q rest (a.put o.dst v') w'):wpList P ops Q (o::rest) a w :=
 wpList_plain hgd fun _ hK=>zhj w s x t ho e i z size bytes ht hi hz hsize hby hzs hsz v n xs hs hown ad m c news hx hl hnews h1 h63 hbytes fun v' w' h2 h3 h4=>hK _ _ (h v' w' h2 h3 h4)
theorem vX {ops:Array Oper} {rest:List Oper} {o:Oper} {a:Act} {Q:Exit→Act→World→Prop} (hgd:o.guard=none) (sl x:Operand) (t u:TypeId)
 (ho:o.op = .call { callee := .builtin .append,args := #[sl,x],argTypes := #[t,u] })
 (e:TypeId) (i:TypeInfo) (ht:P.underlying t=some (.slice e)) (hu:P.underlying u=some .string) (hi:P.info? e=some i) (hz:i.zero=some (.int .u8 0))
 (hsize:i.size=1) (hby:i.bytes=1) (v:Value) (n:Nat) (xs:List Value) (hs:a.eval sl=v) (hown:Row w e 1 v n xs) (s:ByteArray) (hx:a.eval x = .string s)
 (h63:n+s.size≤maxLen) (hbytes:n+s.size≤140737488355328)
 (h : ∀ v' w',Row w' e 1 v' (n+s.size) (xs++Lib.strCells s)→Upd v.ownBlock.toList w w'→Later w v v'→wpList P ops Q rest (a.put o.dst v') w'):wpList P ops Q (o::rest) a w :=
 wpList_plain hgd fun _ hK=>zb8 w sl x t u ho e i ht hu hi hz hsize hby v n xs hs hown s hx h63 hbytes fun v' w' h2 h3 h4=>hK _ _ (h v' w' h2 h3 h4)
theorem qu {ops:Array Oper} {o:Oper} {a:Act} {K:Act→World→Prop} {Q:Exit→Act→World→Prop} {E:Prop} (hgd:o.guard=none) (s x:Operand) (t:TypeId)
 (ho:o.op = .call { callee := .builtin .append,args := #[s,x],argTypes := #[t,t] })
 (e:TypeId) (i:TypeInfo) (z:Value) (size bytes:Nat) (ht:P.underlying t=some (.slice e)) (hi:P.info? e=some i) (hz:i.zero=some z)
 (hsize:i.size=size) (hby:i.bytes=bytes) (hzs:z.cells.size=size) (hsz:0<size)
 (v:Value) (n:Nat) (xs:List Value) (hs:a.eval s=v) (hown:Row w e size v n xs)
 (ad:Addr) (m c:Nat) (news:List Value) (hx:a.eval x = .slice (some ad) m c) (hl:news.length=m*size) (hnews : ∀ j u,news[j]? =some u→w.cell? (ad.add j)=some u) (h1 : ∀ u∈news,u.oneCell'=true)
 (h63:n+m≤maxLen) (hbytes:(n+m)*bytes≤140737488355328)
 (h : ∀ v' w',Row w' e size v' (n+m) (xs++news)→Upd v.ownBlock.toList w w'→Later w v v'→K (a.put o.dst v') w') :
 if Region.wanted o (yielded ops a.tmps)=true then Oper.wp P o a w K Q else E:=by
 have hw:Region.wanted o (yielded ops a.tmps)=true:=by simp [Region.wanted,hgd]
 rw [if_pos hw];exact zhj w s x t ho e i z size bytes ht hi hz hsize hby hzs hsz v n xs hs hown ad m c news hx hl hnews h1 h63 hbytes h
end
section
variable {P:Program}
theorem zx {ops:Array Oper} {rest:List Oper} {o:Oper} {a:Act} {w:World} {Q:Exit→Act→World→Prop} (hgd:o.guard=none) (ty:TypeId) (x:Operand) (ho:o.op = .load ty x)
 (b:Nat) (hx:a.eval x = .pointer (some ⟨b,0,none⟩)) (t:TypeId) (cs:List Value) (hB:Blk w b cs t) (d:TypeDesc)
 (hu:P.underlying ty=some d) (hd:(match d with | .struct _ | .array _ _=>true | _=>false)=true) (hi:(P.info? ty).map (·.size)=some cs.length)
 (h:wpList P ops Q rest (a.put o.dst (.agg cs.toArray)) w):wpList P ops Q (o::rest) a w :=
 wpList_load_row hgd ty x ho b hx t cs.toArray (0,0) d hB hu hd (by simpa using hi) h
theorem KI (w:World) (ty t:TypeId) (b:Nat) (cs ds:List Value) (hB:Blk w b cs t) (hi:(P.info? ty).map (·.size)=some cs.length) (hl:ds.length=cs.length) (h1 : ∀ v∈ds,v.oneCell'=true) :
 ∃ w',(storeVar ty ⟨b,0,none⟩ (.agg ds.toArray)).run P w = .ok () w'∧Blk w' b ds t∧Upd [b] w w':=by
 have hst:=run_storeCells_at P b 0 t ds 0 cs.toArray w hB (by simp; omega) h1;have e:(((cs.toArray.toList.take (0+0))++ds++cs.toArray.toList.drop (0+0+ds.length)).toArray)=ds.toArray:=by
  simp [hl]
 obtain ⟨i,hi1,hi2⟩:=Option.map_eq_some_iff.1 hi;refine ⟨w.setRow b ds.toArray,?_,?_,?_⟩
 · rw [e] at hst;simp only [storeVar,Value.cells,sizeOf,typeInfo,Sem.run_bind,Sem.run_pure];simp [hi1,hi2,hl];simpa using hst
 · exact setRow_heap w b cs.toArray _ t _ hB
 · exact ⟨rfl,rfl,rfl,by simp,fun k _ hk=>setRow_other w b k _ (fun e=>hk (by simp [e]))⟩
theorem zv {ops:Array Oper} {rest:List Oper} {o:Oper} {a:Act} {w:World} {Q:Exit→Act→World→Prop} (hgd:o.guard=none) (ty:TypeId) (x y:Operand) (ho:o.op = .store ty x y)
 (b:Nat) (hx:a.eval x = .pointer (some ⟨b,0,none⟩)) (ds:List Value) (hy:a.eval y = .agg ds.toArray) (t:TypeId) (cs:List Value) (hB:Blk w b cs t)
 (hi:(P.info? ty).map (·.size)=some cs.length) (hl:ds.length=cs.length) (h1 : ∀ v∈ds,v.oneCell'=true)
 (h : ∀ w',Blk w' b ds t→Upd [b] w w'→wpList P ops Q rest (a.put o.dst undef) w'):wpList P ops Q (o::rest) a w:=by
 refine wpList_plain hgd fun K hK=>?_;obtain ⟨w',hr,h2,h3⟩:=KI (P:=P) w ty t b cs ds hB hi hl h1;unfold Oper.wp execOp;simp only [ho,hx,hy,Instr.storeAt,Instr.sureAddr,Sem.run_bind,Sem.run_pure,Result.andThen_ok,hr,Oper.upon];exact hK _ _ (h w' h2 h3)
theorem Ky (w:World) (ty t:TypeId) (b:Nat) (cs ds rs:List Value) (hB:Blk w b (cs++rs) t) (hi:(P.info? ty).map (·.size)=some cs.length) (hl:ds.length=cs.length) (h1 : ∀ v∈ds,v.oneCell'=true) :
 ∃ w',(storeVar ty ⟨b,0,none⟩ (.agg ds.toArray)).run P w = .ok () w'∧Blk w' b (ds++rs) t∧Upd [b] w w':=by
 have hst:=run_storeCells_at P b 0 t ds 0 (cs++rs).toArray w hB (by simp; omega) h1;have e:((((cs++rs).toArray.toList.take (0+0))++ds++(cs++rs).toArray.toList.drop (0+0+ds.length)).toArray)=(ds++rs).toArray:=by
  simp [hl]
 obtain ⟨i,hi1,hi2⟩:=Option.map_eq_some_iff.1 hi;refine ⟨w.setRow b (ds++rs).toArray,?_,?_,?_⟩
 · rw [e] at hst;simp only [storeVar,Value.cells,sizeOf,typeInfo,Sem.run_bind,Sem.run_pure];simp [hi1,hi2,hl];simpa using hst
 · exact setRow_heap w b (cs++rs).toArray _ t _ hB
 · exact ⟨rfl,rfl,rfl,by simp,fun k _ hk=>setRow_other w b k _ (fun e=>hk (by simp [e]))⟩
theorem ZZ {ops:Array Oper} {rest:List Oper} {o:Oper} {a:Act} {w:World} {Q:Exit→Act→World→Prop} (hgd:o.guard=none) (ty:TypeId) (x y:Operand) (ho:o.op = .store ty x y)
 (b:Nat) (hx:a.eval x = .pointer (some ⟨b,0,none⟩)) (ds:List Value) (hy:a.eval y = .agg ds.toArray) (t:TypeId) (cs rs:List Value) (hB:Blk w b (cs++rs) t)
 (hi:(P.info? ty).map (·.size)=some cs.length) (hl:ds.length=cs.length) (h1 : ∀ v∈ds,v.oneCell'=true)
 (h : ∀ w',Blk w' b (ds++rs) t→Upd [b] w w'→wpList P ops Q rest (a.put o.dst undef) w'):wpList P ops Q (o::rest) a w:=by
 refine wpList_plain hgd fun K hK=>?_;obtain ⟨w',hr,h2,h3⟩:=Ky (P:=P) w ty t b cs ds rs hB hi hl h1;unfold Oper.wp execOp;simp only [ho,hx,hy,Instr.storeAt,Instr.sureAddr,Sem.run_bind,Sem.run_pure,Result.andThen_ok,hr,Oper.upon];exact hK _ _ (h w' h2 h3)
theorem Qh (T e:TypeId) (n:Nat) (hT:P.underlying T=some (.array n e)) (ik:IntKind) (he:P.underlying e=some (.int ik))
 (hs:(P.info? e).map (·.size)=some 1) (cs:List Value) (hl:cs.length=n) (k:IntKind) (i:Nat) (hi:i<n) (w:World) :
 (Instr.index T (.agg cs.toArray) (.int k (i:Int))).run P w = .ok (cs.getD i undef) w:=by
 obtain ⟨f,hf1,hf2⟩:=Option.map_eq_some_iff.1 hs;simp [Instr.index,asIntOf,run_underlying hT,sizeOf,typeInfo,hf1,hf2,hi,part,isAgg,run_underlying he];simp [show i<cs.length by omega]
theorem kz (w:World) {ops:Array Oper} {rest:List Oper} {o:Oper} {a:Act} {Q:Exit→Act→World→Prop}
 (hg:o.guard=none) (l c:Operand) (t:TypeId) (hop:o.op=Op.makeSlice t l c)
 (e:TypeId) (i:TypeInfo) (z:Value) (h1:P.underlying t=some (.slice e)) (h2:P.info? e=some i) (h3:i.zero=some z) (h4:i.size=1) (hz:z.cells = #[z])
 (kl kc:IntKind) (L C:Int) (n:Nat) (hl:a.eval l = .int kl L) (hc:a.eval c = .int kc C) (hL:L=(n:Int)) (hC:C=(n:Int)) (b2:i.bytes*n≤281474976710656) (b3:n≤maxLen)
 (hK : ∀ w',Row w' e 1 (.slice (some ⟨w.heap.size,0,none⟩) n n) n (List.replicate n z)→Upd [] w w'→w.heap.size<w'.heap.size→wpList P ops Q rest (a.put o.dst (.slice (some ⟨w.heap.size,0,none⟩) n n)) w') :
 wpList P ops Q (o::rest) a w:=by
 refine wpList_make_full w hg l c t hop 0 e i z 1 h1 h2 h3 h4 kl kc L C n hl hc hL hC b2 b3 (Nat.zero_le _) ?_;intro w' r1 r2;rw [Nat.mul_one,hz,toList_madeCells_one] at r1;refine hK w' r1 ((Upd.refl _ w).grown r2 (by simp)) ?_;exact Row.lt r1 _ rfl
end
def u8s (l:List Nat):List Value:=l.map fun x:Nat => .int .u8 (x:Int)
def zg (l:List Nat):ByteArray:=⟨(l.map UInt8.ofNat).toArray⟩
def zf (s:ByteArray):List Nat:=s.data.toList.map UInt8.toNat
theorem zhE (l:List Nat) (x:Nat):u8s (l++[x])=u8s l++[.int .u8 (x:Int)]:=by simp [u8s]
theorem XF (l r:List Nat):u8s (l++r)=u8s l++u8s r:=by simp [u8s]
theorem jN (l:List Nat):(u8s l).length=l.length:=by simp [u8s]
theorem vR (s:ByteArray):Lib.strCells s=u8s (zf s):=by simp [Lib.strCells,u8s,zf]
theorem xf (s:ByteArray) : ∀ x∈zf s,x<256:=by
 intro x hx;simp only [zf,List.mem_map] at hx;obtain ⟨b,_,rfl⟩:=hx;exact b.toNat_lt
theorem zi (s:ByteArray):(zf s).length=s.size:=by simp only [zf,List.length_map,Array.length_toList]; rfl
theorem xd (s:ByteArray) (i:Nat) (h:i<s.size) (h':i<(zf s).length):(zf s)[i]=s[i].toNat:=by simp [zf]; rfl
theorem zk (l:List Nat):(zg l).size=l.length:=by simp [zg,ByteArray.size]
theorem zE (s:ByteArray):zg (zf s)=s:=by
 have h:(s.data.toList.map UInt8.toNat).map UInt8.ofNat=s.data.toList:=by
  rw [List.map_map];exact (List.map_congr_left (fun x _=>by simp)).trans (List.map_id _)
 unfold zg zf;rw [h]
theorem zR (l:List Nat) (h : ∀ x∈l,x<256):zf (zg l)=l:=by
 simp only [zf,zg,List.map_map]
 conv=>rhs; rw [← List.map_id l]
 apply List.map_congr_left;intro x hx;have:=h x hx;simp only [Function.comp,id,UInt8.toNat_ofNat'];omega
theorem zI (l r:List Nat):zg l++zg r=zg (l++r):=by
 simp [zg,ByteArray.mk_append_mk]
section
variable {P:Program} (w:World)
theorem ju (src dst e:TypeId) (hs:P.underlying src=some (.slice e)) (he:P.underlying e=some (.int .u8)) (hd:P.underlying dst=some .string) {v:Value} {n:Nat} {l:List Nat}
 (h:Row w e 1 v n (u8s l)):(convert src dst v).run P w = .ok (.string (zg l)) w:=by
 have hl:l.length=n:=by have:=h.len; rw [jN] at this; omega
 rcases h.2 with ⟨rfl,rfl⟩ | ⟨g,cap,cur,rfl,_⟩
 · have:l=[]:=List.eq_nil_of_length_eq_zero hl;subst this;exact run_convert_bytes_nil w src e hs he 0 0 dst hd
 · have hr:=run_convert_bytes_arg w src e hs he g 0 n cap (l.map fun x:Nat=>(x:Int)) (by simpa using hl) (fun i hi=>by
    have hil:i<l.length:=(by omega);rw [Nat.zero_add];refine Row.cell h i ?_;simp [u8s,hil]) dst hd
   rw [hr]
   congr 2
   simp only [strOfNums,zg,List.map_map]
   congr 2
end
end Go.Proofs.YtfkenhihcmmgkaaGreatDoor
namespace Go.Proofs.YtfkenhihcmmgkaaGreatDoor
def val:List Bool→Nat
 | []=>0
 | b::l=>b.toNat+2*val l
def low:Nat→Nat→List Bool
 | 0,_=>[]
 | k+1,v=>(v%2==1)::low k (v/2)
theorem KX (l:List Bool):val l<2^l.length:=by
 induction l with
 | nil=>simp [val]
 | cons b l ih=>simp only [val,List.length_cons,Nat.pow_succ]; have:b.toNat≤1:=Bool.toNat_le b; omega
theorem vv (a b:List Bool):val (a++b)=val a+2^a.length*val b:=by
 induction a with
 | nil=>simp [val]
 | cons x a ih =>
   simp only [List.cons_append,val,ih,List.length_cons,Nat.pow_succ,Nat.mul_add];rw [Nat.mul_comm (2^a.length) 2,Nat.mul_assoc]; omega
theorem zO (k v:Nat):(low k v).length=k:=by
 induction k generalizing v with
 | zero=>rfl
 | succ k ih=>simp [low,ih]
theorem zdU (k v:Nat):val (low k v)=v%2^k:=by
 induction k generalizing v with
 | zero=>simp [low,val,Nat.mod_one]
 | succ k ih =>
   simp only [low,val,ih];have h1:(v%2==1).toNat=v%2:=by
    rcases Nat.mod_two_eq_zero_or_one v with h | h<;>simp [h]
   have h2:v%2^(k+1)=v%2+2*(v/2%2^k):=by
    rw [Nat.pow_succ,Nat.mul_comm,Nat.mod_mul]
   omega
theorem WZ (l:List Bool) (k:Nat) (h:k≤l.length):val (l.take k)=val l%2^k:=by
 have h1:=vv (l.take k) (l.drop k);rw [List.take_append_drop] at h1;have h2:=KX (l.take k);rw [List.length_take,Nat.min_eq_left h] at h1 h2;rw [h1,Nat.add_mul_mod_self_left,Nat.mod_eq_of_lt h2]
theorem zbk (l:List Bool) (k:Nat) (h:k≤l.length):val (l.drop k)=val l/2^k:=by
 have h1:=vv (l.take k) (l.drop k);rw [List.take_append_drop] at h1;have h2:=KX (l.take k);rw [List.length_take,Nat.min_eq_left h] at h1 h2;rw [h1,Nat.add_mul_div_left _ _ (Nat.two_pow_pos k),Nat.div_eq_of_lt h2,Nat.zero_add]
def JB (L:List Bool) (i:Nat):Nat:=val ((L.drop (8*i)).take 8)
def vG (L:List Bool) (m:Nat):List Nat:=(List.range m).map (JB L)
def rest (L:List Bool) (m:Nat):Nat:=val (L.drop (8*m))
def pack (L:List Bool):List Nat:=vG L ((L.length+7)/8)
theorem ZL (L:List Bool) (m:Nat):(vG L m).length=m:=by simp [vG]
theorem VE (L:List Bool) (m:Nat):vG L (m+1)=vG L m++[JB L m]:=by simp [vG,List.range_succ]
theorem Kw (L R:List Bool) (i:Nat) (h:8*(i+1)≤L.length):JB (L++R) i=JB L i:=by
 unfold JB;rw [List.drop_append_of_le_length (by omega),List.take_append_of_le_length (by simp; omega)]
theorem zaH (L R:List Bool) (m:Nat) (h:8*m≤L.length):vG (L++R) m=vG L m:=by
 unfold vG;apply List.map_congr_left;intro i hi;rw [List.mem_range] at hi;exact Kw L R i (by omega)
theorem zab (L R:List Bool) (m:Nat) (h:8*m≤L.length):rest (L++R) m=rest L m+2^(L.length-8*m)*val R:=by
 unfold rest;rw [List.drop_append_of_le_length h,vv,List.length_drop]
theorem zdx (L:List Bool) (m:Nat):rest L m<2^(L.length-8*m):=by
 have h:=KX (L.drop (8*m));rwa [List.length_drop] at h
theorem zcX (L:List Bool) (m:Nat) (h:8*(m+1)≤L.length):JB L m=rest L m%256:=by
 unfold JB rest;rw [WZ _ _ (by simp; omega)]
theorem zfc (L:List Bool) (m:Nat) (h:8*(m+1)≤L.length):rest L (m+1)=rest L m/256:=by
 unfold rest;rw [show 8*(m+1)=8*m+8 by omega,← List.drop_drop,zbk _ _ (by simp; omega)]
theorem zc9 (L:List Bool) (m:Nat) (h:L.length≤8*(m+1)):JB L m=rest L m:=by
 unfold JB rest;rw [List.take_of_length_le (by simp; omega)]
theorem zdA (p X K n:Nat) (hp:p<2^n):p ||| (X &&& (2^K-1))*2^n=p+2^n*(X%2^K):=by
 rw [Nat.and_two_pow_sub_one_eq_mod,Nat.or_comm,nat_join' _ _ _ hp]
where
 nat_join' (y p n:Nat) (hp:p<2^n):y*2^n ||| p=p+2^n*y:=by
  rw [nat_join n (y*2^n) p (Nat.mul_mod_left _ _) hp,Nat.mul_comm,Nat.add_comm]
def zcg (L:List Bool):List Bool:=L++List.replicate ((8-L.length%8)%8) false
theorem Vd (L:List Bool):(zcg L).length=8*((L.length+7)/8):=by
 simp only [zcg,List.length_append,List.length_replicate]; omega
def yc (s:List Nat):List Bool:=s.flatMap (low 8)
theorem jh (s:List Nat):(yc s).length=8*s.length:=by
 induction s with
 | nil=>rfl
 | cons x s ih=>simp only [yc,List.flatMap_cons,List.length_append,zO,List.length_cons] at *; omega
theorem zaZ (L:List Bool) (i n:Nat):val ((L.drop i).take n)<2^n:=by
 have h:=KX ((L.drop i).take n);have h2:((L.drop i).take n).length≤n:=by simp; omega
 exact Nat.lt_of_lt_of_le h (Nat.pow_le_pow_right (by omega) h2)
end Go.Proofs.YtfkenhihcmmgkaaGreatDoor
