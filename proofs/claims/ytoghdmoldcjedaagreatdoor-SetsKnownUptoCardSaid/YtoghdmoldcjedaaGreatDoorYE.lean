/- The walk of sets.Find. -/
import Derived.Test.YtoghdmoldcjedaaGreatDoorPI
import Derived.Test.YtoghdmoldcjedaaGreatDoorYD
import Derived.Test.YtoghdmoldcjedaaGreatDoorVU
namespace Go.Proofs.YtoghdmoldcjedaaGreatDoor
open Go.RowKit Go.Sort
set_option linter.unusedVariables false

theorem step_goB {P : Program} {Q : Exit → Act → World → Prop} {o : Oper} {a : Act} {w : World} {R : Nat → Nat → Value → World → Prop} (f : FuncId) {fn : Func} (xs : Array Operand) (ts : Array TypeId)
    (hop : o.op = Op.call { callee := Callee.value (Operand.func f), args := xs, argTypes := ts }) (hf : P.funcs[f]? = some fn) (hname : (fn.name == "runtime.NumGoroutine") = false) (hb : fn.body.isNone = false) (vs : Array Value) (hx : xs.map a.eval = vs)
    (hc : Calls P f vs w fun e w' => ∃ v, e = .returned v ∧ Ext w w' ∧ R w.heap.size w'.heap.size v w') : Oper.wp P o a w (fun a' w'' => ∃ v, a' = a.put o.dst v ∧ Ext w w'' ∧ R w.heap.size w''.heap.size v w'') Q := by
  unfold Oper.wp
  have h1 : fn.name ≠ "runtime.NumGoroutine" := by simpa using hname
  have hev : a.eval (Operand.func f) = .func (.func f) #[] #[] := rfl
  have h2 : ¬ (fn.body = none) := by intro h; simp [h] at hb
  have hrun : (execOp a.eval o).run P w = .ok (.enter f vs) w := by
    simp [execOp, hop, resolve, hev, Deferred.ofValue, invoke, hx, callFunc, hf, h1, h2]
  rw [hrun, Oper.upon_enter]
  exact hc.mono fun e w' h => by obtain ⟨v, rfl, hE, hR⟩ := h; exact ⟨v, rfl, hE, hR⟩
/-- A row that a step has made. -/
def OwnR {α : Type} (E : Enc α) (e : TypeId) (l : List α) (lo hi : Nat) (v : Value) (w : World) : Prop := Own E e w lo v l ∧ ∀ b, v.ownBlock = some b → b < hi
theorem OwnR.stays {α : Type} {E : Enc α} {e : TypeId} {l : List α} {W : World} (hE : ∀ {w w' : World} {S S' : Nat → Prop} {x : α} {cs : List Value}, E.R w S x cs → E.R w' S' x cs) : Stays W (OwnR E e l) := by
  rintro lo hi v w w' ⟨⟨xs, ⟨hl, h3⟩, h2⟩, hlt⟩ hw hs
  refine ⟨⟨xs, ⟨hl, ?_⟩, fun k x hx => ?_⟩, hlt⟩
  · rcases h3 with h3 | ⟨g, cap, cur, rfl, hg, hh, r⟩
    · exact .inl h3
    · exact .inr ⟨g, cap, cur, rfl, hg, by rw [hw g (.inr ⟨hg, hlt g rfl⟩)]; exact hh, r⟩
  · obtain ⟨cs, hr, hc⟩ := h2 k x hx
    exact ⟨cs, hE hr, hc⟩
theorem OwnR.of {α : Type} {E : Enc α} {e : TypeId} {l : List α} {w w' : World} {v : Value} (h : Own E e w' w.heap.size v l) : OwnR E e l w.heap.size w'.heap.size v w' := ⟨h, fun b hb => (h.lt b hb).2⟩
theorem own_kept {α : Type} {E : Enc α} {e : TypeId} {l : List α} {w w' : World} {B : Nat} {v : Value} {row : Option Nat} (hE : ∀ {w w' : World} {S S' : Nat → Prop} {x : α} {cs : List Value}, E.R w S x cs → E.R w' S' x cs) (h : Own E e w B v l) (hg : w.grownBy w' row) (hn : v.ownBlock = none ∨ v.ownBlock ≠ row) : Own E e w' B v l := by
  obtain ⟨xs, ho, hr⟩ := h
  exact ⟨xs, ho.kept hg hn, fun k x hx => let ⟨cs, h1, h2⟩ := hr k x hx; ⟨cs, hE h1, h2⟩⟩
theorem find_cases {α : Type} (pr : α → Bool) : ∀ l : List α, (l.any pr = false ∧ l.find? pr = none) ∨ ∃ k : Nat, ∃ hk : k < l.length, pr l[k] = true ∧ (l.take k).any pr = false ∧ l.find? pr = some l[k]
  | [] => .inl ⟨rfl, rfl⟩
  | x :: r => by
    cases h : pr x with
    | true => exact .inr ⟨0, by simp, h, rfl, by simp [h]⟩
    | false =>
      rcases find_cases pr r with ⟨h1, h2⟩ | ⟨k, hk, h1, h2, h3⟩
      · exact .inl ⟨by simp [h, h1], by simp [h, h2]⟩
      · exact .inr ⟨k + 1, by simp; omega, h1, by simp [h, h2], by simp [h, h3]⟩
/-- What sets.Find answers: a set of rows of its own. -/
def FindP (l : List StS) (name : List UInt8) (w : World) (e : Ending) (w' : World) : Prop :=
  Ext w w' ∧ match findS l name with
    | some x => ∃ v1 v2 v3, e = .returned (.tuple #[.agg #[.string ⟨x.name.toArray⟩, .int .i64 x.kind, v1, v2, v3], .bool true]) ∧ Own EItm 36 w' w.heap.size v1 x.items ∧ Own EU32 37 w' w.heap.size v2 x.comms ∧ Own EAtm.sliceC 38 w' w.heap.size v3 x.paths ∧ (∀ b, v3.ownBlock = some b → v1.ownBlock ≠ some b ∧ v2.ownBlock ≠ some b) ∧
      ∀ k (hk : k < x.paths.length) b a c, v3.ownBlock = some b → w'.cell? ⟨b, k, none⟩ = some (.slice a x.paths[k].length c) → Own EAtm 40 w' w.heap.size (.slice a x.paths[k].length c) x.paths[k]
    | none => e = .returned (.tuple #[.agg #[.string ⟨#[]⟩, .int .i64 0, .slice none 0 0, .slice none 0 0, .slice none 0 0], .bool false])
set_option maxRecDepth 20000 in
set_option maxHeartbeats 4000000 in
theorem SFind_any (a : Option Addr) (c : Nat) (l : List StS) (name : List UInt8) (w : World) (hl : l.length ≤ 16777216) (hs : Sl ESet w (· < w.heap.size) a l) :
    Calls Tryz.prog 9 #[.slice a l.length c, .string ⟨name.toArray⟩] w (FindP l name w) := by
  have mixed : Tryz.prog.follows Departure.mixedOrders = true := by kernel_rfl
  have hno : findS l name = none → ∀ w', Ext w w' → FindP l name w (.returned (.tuple #[.agg #[.string ⟨#[]⟩, .int .i64 0, .slice none 0 0, .slice none 0 0, .slice none 0 0], .bool false])) w' := fun h w' hE => ⟨hE, by rw [h]⟩
  have hyes : ∀ x, findS l name = some x → ∀ v1 v2 v3 w', Ext w w' → Own EItm 36 w' w.heap.size v1 x.items → Own EU32 37 w' w.heap.size v2 x.comms → Own EAtm.sliceC 38 w' w.heap.size v3 x.paths → (∀ b, v3.ownBlock = some b → v1.ownBlock ≠ some b ∧ v2.ownBlock ≠ some b) →
      (∀ k (hk : k < x.paths.length) b a c, v3.ownBlock = some b → w'.cell? ⟨b, k, none⟩ = some (.slice a x.paths[k].length c) → Own EAtm 40 w' w.heap.size (.slice a x.paths[k].length c) x.paths[k]) →
      FindP l name w (.returned (.tuple #[.agg #[.string ⟨x.name.toArray⟩, .int .i64 x.kind, v1, v2, v3], .bool true])) w' := fun x h v1 v2 v3 w' hE h1 h2 h3 h4 h5 => ⟨hE, by rw [h]; exact ⟨v1, v2, v3, rfl, h1, h2, h3, h4, h5⟩⟩
  generalize FindP l name w = Post at *
  have qx := fun (g : Nat) W (hE : Ext w W) (hB : Blk W g 9 #[.string ⟨name.toArray⟩]) => IdxSet_any 36 #[.pointer (some ⟨g, 0, none⟩)] (fun args w => by
    simp [callFunc, Tryz.func36, Tryz.f36]) (fun s : StS => s.name == name) a c l W hl (hs.ext hE) (fun x _ W' b1 d1 b2 d2 b3 d3 hE' => Find1_any x.name x.kind b1 x.items.length d1 b2 x.comms.length d2 b3 x.paths.length d3 name g W' (hB.ext hE'))
  generalize hIx : idxT (fun s : StS => s.name == name) l = ix at qx
  have hcase : (ix = -1 ∧ findS l name = none) ∨ ∃ k : Nat, ∃ hk : k < l.length, ix = (k : Int) ∧ findS l name = some l[k] := by
    rcases find_cases (fun s : StS => s.name == name) l with ⟨h1, h2⟩ | ⟨k, hk, h1, h2, h3⟩
    · exact .inl ⟨by rw [← hIx]; exact idxT_none h1, h2⟩
    · exact .inr ⟨k, hk, by rw [← hIx]; exact idxT_at hk h1 h2, h3⟩
  clear hIx
  replace hno := hide hno
  replace hyes := hide hyes
  replace qx := hide qx
  replace hs := hide hs
  go_enter Tryz.func9, Tryz.ntmps9
  have N := (Blk.new w 9 #[.string ⟨name.toArray⟩]).alloc (Obj.cells #[.string ⟨#[]⟩, .int .i64 0, .slice none 0 0, .slice none 0 0, .slice none 0 0] 27)
  have R := Blk.new (w.alloc (Obj.cells #[.string ⟨name.toArray⟩] 9)) 27 #[.string ⟨#[]⟩, .int .i64 0, .slice none 0 0, .slice none 0 0, .slice none 0 0]
  have E := ((Ext.refl w).alloc (Obj.cells #[.string ⟨name.toArray⟩] 9)).alloc (Obj.cells #[.string ⟨#[]⟩, .int .i64 0, .slice none 0 0, .slice none 0 0, .slice none 0 0] 27)
  rw [show (w.alloc (Obj.cells #[.string ⟨name.toArray⟩] 9)).heap.size = w.heap.size + 1 by simp] at R
  generalize hW0 : (w.alloc (Obj.cells #[.string ⟨name.toArray⟩] 9)).alloc (Obj.cells #[.string ⟨#[]⟩, .int .i64 0, .slice none 0 0, .slice none 0 0, .slice none 0 0] 27) = W0 at N R E
  generalize hg0 : w.heap.size = g0 at N R
  have hgw : w.heap.size ≤ g0 + 1 := by omega
  have q := qx.out g0 W0 E N
  clear qx N
  replace R := hide R
  replace E := hide E
  replace q := hide q
  replace hgw := hide hgw
  go_wp2_with fail
  refine q.out.mono ?_
  rintro e w1 ⟨rfl, hE⟩
  replace R := R.out.ext hE
  replace E := hide (E.out.trans hE)
  clear hE q hW0
  generalize g0 + 1 = gr at R hgw ⊢
  rcases hcase with ⟨rfl, hf⟩ | ⟨k, hk, rfl, hf⟩
  · have hno' := hno.out hf
    clear hno hyes hf hs
    have r0 : w1.cell? ⟨gr, 0, none⟩ = some (.string ⟨#[]⟩) := R.cell 0
    have r1 : w1.cell? ⟨gr, 1, none⟩ = some (.int .i64 0) := R.cell 1
    have r2 : w1.cell? ⟨gr, 2, none⟩ = some (.slice none 0 0) := R.cell 2
    have r3 : w1.cell? ⟨gr, 3, none⟩ = some (.slice none 0 0) := R.cell 3
    have r4 : w1.cell? ⟨gr, 4, none⟩ = some (.slice none 0 0) := R.cell 4
    have rf := fun i => R.frozen i
    have hZ := R.set5w (.string ⟨#[]⟩) (.int .i64 0) (.slice none 0 0) (.slice none 0 0) (.slice none 0 0)
    have hEZ := (OnlyAt.set5w (g := gr) (w := w1) (.string ⟨#[]⟩) (.int .i64 0) (.slice none 0 0) (.slice none 0 0) (.slice none 0 0)).ext E.out hgw.out
    clear R E
    replace hZ := hide hZ
    replace hEZ := hide hEZ
    replace hno' := hide hno'
    replace hgw := hide hgw
    go_wp2
    replace hZ := hZ.out
    replace hEZ := hEZ.out
    generalize (((((w1.setCell ⟨gr, 0, none⟩ (.string ⟨#[]⟩)).setCell ⟨gr, 1, none⟩ (.int .i64 0)).setCell ⟨gr, 2, none⟩ (.slice none 0 0)).setCell ⟨gr, 3, none⟩ (.slice none 0 0)).setCell ⟨gr, 4, none⟩ (.slice none 0 0)) = W3 at hZ hEZ ⊢
    have z0 : W3.cell? ⟨gr, 0, none⟩ = some (.string ⟨#[]⟩) := hZ.cell 0
    have z1 : W3.cell? ⟨gr, 1, none⟩ = some (.int .i64 0) := hZ.cell 1
    have z2 : W3.cell? ⟨gr, 2, none⟩ = some (.slice none 0 0) := hZ.cell 2
    have z3 : W3.cell? ⟨gr, 3, none⟩ = some (.slice none 0 0) := hZ.cell 3
    have z4 : W3.cell? ⟨gr, 4, none⟩ = some (.slice none 0 0) := hZ.cell 4
    exact bodyPost_ret (v := .tuple #[.agg #[.string ⟨#[]⟩, .int .i64 0, .slice none 0 0, .slice none 0 0, .slice none 0 0], .bool false]) (by simp [results, Tryz.results9, go_sem, z0, z1, z2, z3, z4]) rfl (hno'.out _ hEZ)
  · have hyes' := hyes.out _ hf
    clear hno hyes hf
    obtain ⟨b, off, a1, c1, a2, c2, a3, c3, rfl, _, hi, hc⟩ := ESet.at (hs.out.ext E.out) k hk
    have hi0 := (ESet.at hs.out k hk)
    have x0 : w1.cell? ⟨b, off + k * 5, none⟩ = some (.string ⟨l[k].name.toArray⟩) := hc 0 _ rfl
    have x1 : w1.cell? ⟨b, off + k * 5 + 1, none⟩ = some (.int .i64 l[k].kind) := hc 1 _ rfl
    have x2 : w1.cell? ⟨b, off + k * 5 + 2, none⟩ = some (.slice a1 l[k].items.length c1) := hc 2 _ rfl
    have x3 : w1.cell? ⟨b, off + k * 5 + 3, none⟩ = some (.slice a2 l[k].comms.length c2) := hc 3 _ rfl
    have x4 : w1.cell? ⟨b, off + k * 5 + 4, none⟩ = some (.slice a3 l[k].paths.length c3) := hc 4 _ rfl
    have d1 : decide ((k : Int) < 0) = false := decide_eq_false (by omega)
    clear hc hi0 hs
    generalize l[k] = X at *
    obtain ⟨nm, kd, I, C, P⟩ := X
    dsimp only at *
    have nI := hi.nItems
    have nC := hi.nComms
    have nP := hi.nPaths
    obtain ⟨hs, hhl, hsl, hhd⟩ := heads_sl hi.paths
    dsimp only at nI nC nP hhl
    have hI := hi.items
    have hC := hi.comms
    dsimp only at hI hC
    clear hi
    have S := Blk.new w1 27 #[.string ⟨#[]⟩, .int .i64 0, .slice none 0 0, .slice none 0 0, .slice none 0 0]
    have hgr := R.lt
    have hne : gr ≠ w1.heap.size := Nat.ne_of_lt hgr
    replace R := R.alloc (Obj.cells #[.string ⟨#[]⟩, .int .i64 0, .slice none 0 0, .slice none 0 0, .slice none 0 0] 27)
    have E2 := (Ext.refl w1).alloc (Obj.cells #[.string ⟨#[]⟩, .int .i64 0, .slice none 0 0, .slice none 0 0, .slice none 0 0] 27)
    generalize hW2 : w1.alloc (Obj.cells #[.string ⟨#[]⟩, .int .i64 0, .slice none 0 0, .slice none 0 0, .slice none 0 0] 27) = W2 at S R E2
    generalize hg7 : w1.heap.size = g7 at S hne
    have y0 : W2.cell? ⟨g7, 0, none⟩ = some (.string ⟨#[]⟩) := S.cell 0
    have y1 : W2.cell? ⟨g7, 1, none⟩ = some (.int .i64 0) := S.cell 1
    have y2 : W2.cell? ⟨g7, 2, none⟩ = some (.slice none 0 0) := S.cell 2
    have y3 : W2.cell? ⟨g7, 3, none⟩ = some (.slice none 0 0) := S.cell 3
    have y4 : W2.cell? ⟨g7, 4, none⟩ = some (.slice none 0 0) := S.cell 4
    have yf := fun i => S.frozen i
    have hS := S.set5w (.string ⟨nm.toArray⟩) (.int .i64 kd) (.slice a1 I.length c1) (.slice a2 C.length c2) (.slice a3 P.length c3)
    have hon : OnlyAt g7 W2 _ := OnlyAt.set5w (g := g7) (w := W2) (.string ⟨nm.toArray⟩) (.int .i64 kd) (.slice a1 I.length c1) (.slice a2 C.length c2) (.slice a3 P.length c3)
    have hE3 := hide (hon.ext E2 (Nat.le_of_eq hg7))
    clear S E2
    replace hS := hide hS
    replace hon := hide hon
    replace R := hide R
    replace hne := hide hne
    replace hyes' := hide hyes'
    replace E := hide E
    replace hgw := hide hgw
    replace hsl := hide hsl
    replace hhd := hide hhd
    replace hI := hide hI
    replace hC := hide hC
    replace hhl := hide hhl
    replace hgr := hide hgr
    go_upto_region 5 with fail
    replace hS := hS.out
    replace R := (hon.out.block gr hne.out).trans R.out
    generalize (((((W2.setCell ⟨g7, 0, none⟩ (.string ⟨nm.toArray⟩)).setCell ⟨g7, 1, none⟩ (.int .i64 kd)).setCell ⟨g7, 2, none⟩ (.slice a1 I.length c1)).setCell ⟨g7, 3, none⟩ (.slice a2 C.length c2)).setCell ⟨g7, 4, none⟩ (.slice a3 P.length c3)) = W3 at hS hE3 R ⊢
    clear hon x0 x1 x2 x3 x4 y0 y1 y2 y3 y4 yf d1 hW2
    have E3 := E.out.trans hE3.out
    have qi : ∀ W, Ext W3 W → Calls Tryz.prog 37 #[.slice a1 I.length c1] W fun e w' => ∃ v, e = .returned v ∧ Ext W w' ∧ OwnR EItm 36 I W.heap.size w'.heap.size v w' := fun W h => (CloneI_any a1 c1 I W nI (hI.out.ext (hE3.out.trans h))).mono fun e w' ⟨v, he, hE, ho⟩ => ⟨v, he, hE, OwnR.of ho⟩
    have qu : ∀ W, Ext W3 W → Calls Tryz.prog 38 #[.slice a2 C.length c2] W fun e w' => ∃ v, e = .returned v ∧ Ext W w' ∧ OwnR EU32 37 C W.heap.size w'.heap.size v w' := fun W h => (CloneU_any a2 c2 C W nC (hC.out.ext (hE3.out.trans h))).mono fun e w' ⟨v, he, hE, ho⟩ => ⟨v, he, hE, OwnR.of ho⟩
    have qh : ∀ W, Ext W3 W → Calls Tryz.prog 39 #[.slice a3 P.length c3] W fun e w' => ∃ v, e = .returned v ∧ Ext W w' ∧ OwnR ESlv 38 hs W.heap.size w'.heap.size v w' := fun W h => by
      have q := CloneH_any a3 c3 hs W (by rw [hhl.out]; exact nP) (hsl.out.ext (hE3.out.trans h))
      rw [hhl.out] at q
      exact q.mono fun e w' ⟨v, he, hE, ho⟩ => ⟨v, he, hE, OwnR.of ho⟩
    have s2 : W3.cell? ⟨g7, 2, none⟩ = some (.slice a1 I.length c1) := hS.cell 2
    have s3 : W3.cell? ⟨g7, 3, none⟩ = some (.slice a2 C.length c2) := hS.cell 3
    have s4 : W3.cell? ⟨g7, 4, none⟩ = some (.slice a3 P.length c3) := hS.cell 4
    have hg7w := hE3.out.size
    have hlt7 := hS.lt
    replace hS := hide hS
    replace R := hide R
    replace E3 := hide E3
    replace qi := hide qi
    replace qu := hide qu
    replace qh := hide qh
    replace hg7w := hide hg7w
    replace hlt7 := hide hlt7
    clear hI hC hsl E
    refine wp_region_JT 10 (J := JN W3 10 _ (fun i => match i with | 0 => .val (.pointer (some ⟨g7, 2, none⟩)) | 1 => .val (.slice a1 I.length c1) | 2 => .any (OwnR EItm 36 I) | 3 => .val (.pointer (some ⟨g7, 3, none⟩)) | 4 => .val (.slice a2 C.length c2) | 5 => .any (OwnR EU32 37 C) | 6 => .val (.pointer (some ⟨g7, 4, none⟩)) | 7 => .val (.slice a3 P.length c3) | 8 => .any (OwnR ESlv 38 hs) | 9 => .val (.pointer (some ⟨g7, 2, none⟩)) | _ => .val undef)) mixed (by kernel_rfl) (by kernel_rfl) (by kernel_rfl) (fun _ => undef) (JN.start _ _ _ _ _) (JN.keeps (by kernel_rfl) ?anys ?fill ?box ?steps) ?rest
    case anys =>
      intro i R hi hR
      replace hi : i < 10 := hi
      match i, hi, hR with
      | 0, _, hR => cases hR
      | 1, _, hR => cases hR
      | 2, _, hR => injection hR with hR; subst hR; exact OwnR.stays fun h => h
      | 3, _, hR => cases hR
      | 4, _, hR => cases hR
      | 5, _, hR => injection hR with hR; subst hR; exact OwnR.stays fun h => h
      | 6, _, hR => cases hR
      | 7, _, hR => cases hR
      | 8, _, hR => injection hR with hR; subst hR; exact OwnR.stays fun h => h
      | 9, _, hR => cases hR
      | i + 10, h, _ => exact absurd h (by omega)
    case fill =>
      intro i b hi hb
      replace hi : i < 10 := hi
      match i, hi, hb with
      | 0, _, hb => cases hb
      | 1, _, hb => cases hb
      | 2, _, hb => cases hb
      | 3, _, hb => cases hb
      | 4, _, hb => cases hb
      | 5, _, hb => cases hb
      | 6, _, hb => cases hb
      | 7, _, hb => cases hb
      | 8, _, hb => cases hb
      | 9, _, hb => cases hb
      | i + 10, h, _ => exact absurd h (by omega)
    case box =>
      intro b st t z cs hi hb
      replace hi : b < 10 := hi
      match b, hi, hb with
      | 0, _, hb => cases hb
      | 1, _, hb => cases hb
      | 2, _, hb => cases hb
      | 3, _, hb => cases hb
      | 4, _, hb => cases hb
      | 5, _, hb => cases hb
      | 6, _, hb => cases hb
      | 7, _, hb => cases hb
      | 8, _, hb => cases hb
      | 9, _, hb => cases hb
      | i + 10, h, _ => exact absurd h (by omega)
    case steps =>
      intro i hi
      replace hi : i < 10 := hi
      match i, hi with
      | 0, _ =>
        refine ⟨_, rfl, rfl, ?_⟩
        intro a w9 done val G H hdn hdep hev hout hE9 hok hge9
        refine ⟨(fun v b hb => by cases hb), ?_⟩
        have u7 : a.eval (.tmp 7) = .pointer (some ⟨g7, 0, none⟩) := (hout 7 (by kernel_rfl)).trans rfl
        simp [Act.eval] at u7
        clear hdep hev hout hok hge9
        refine step_val (w'' := w9) ?_ (Ext.refl _)
        go_simp
      | 1, _ =>
        refine ⟨_, rfl, rfl, ?_⟩
        intro a w9 done val G H hdn hdep hev hout hE9 hok hge9
        refine ⟨(fun v b hb => by cases hb), ?_⟩
        have d0 : done 0 = true := by first | exact hdep ⟨0, .data⟩ (by simp) rfl | exact hdep ⟨0, .phase⟩ (by simp) rfl
        have e0 := hev 0 _ 19 rfl rfl (by simp) d0
        have k0 := hok 0 (by decide) d0
        replace k0 : val 0 = (.pointer (some ⟨g7, 2, none⟩)) := k0
        rw [k0] at e0
        clear k0
        simp [Act.eval] at e0
        clear d0
        clear hdep hev hout hok hge9
        have y2 := hE9.cell s2
        refine step_val (w'' := w9) ?_ (Ext.refl _)
        go_simp
      | 2, _ =>
        refine ⟨_, rfl, rfl, ?_⟩
        intro a w9 done val G H hdn hdep hev hout hE9 hok hge9
        refine ⟨(fun v b hb => by cases hb), ?_⟩
        have d1 : done 1 = true := by first | exact hdep ⟨1, .data⟩ (by simp) rfl | exact hdep ⟨1, .phase⟩ (by simp) rfl
        have e1 := hev 1 _ 20 rfl rfl (by simp) d1
        have k1 := hok 1 (by decide) d1
        replace k1 : val 1 = (.slice a1 I.length c1) := k1
        rw [k1] at e1
        clear k1
        simp [Act.eval] at e1
        clear d1
        clear hdep hev hout hok hge9
        exact step_goB 37 #[.tmp 20] #[23] rfl Tryz.func37 (by kernel_rfl) (by kernel_rfl) _ (by simp [Act.eval, e1]; try rfl) (qi.out w9 hE9)
      | 3, _ =>
        refine ⟨_, rfl, rfl, ?_⟩
        intro a w9 done val G H hdn hdep hev hout hE9 hok hge9
        refine ⟨(fun v b hb => by cases hb), ?_⟩
        have u7 : a.eval (.tmp 7) = .pointer (some ⟨g7, 0, none⟩) := (hout 7 (by kernel_rfl)).trans rfl
        simp [Act.eval] at u7
        clear hdep hev hout hok hge9
        refine step_val (w'' := w9) ?_ (Ext.refl _)
        go_simp
      | 4, _ =>
        refine ⟨_, rfl, rfl, ?_⟩
        intro a w9 done val G H hdn hdep hev hout hE9 hok hge9
        refine ⟨(fun v b hb => by cases hb), ?_⟩
        have d3 : done 3 = true := by first | exact hdep ⟨3, .data⟩ (by simp) rfl | exact hdep ⟨3, .phase⟩ (by simp) rfl
        have e3 := hev 3 _ 22 rfl rfl (by simp) d3
        have k3 := hok 3 (by decide) d3
        replace k3 : val 3 = (.pointer (some ⟨g7, 3, none⟩)) := k3
        rw [k3] at e3
        clear k3
        simp [Act.eval] at e3
        clear d3
        clear hdep hev hout hok hge9
        have y3 := hE9.cell s3
        refine step_val (w'' := w9) ?_ (Ext.refl _)
        go_simp
      | 5, _ =>
        refine ⟨_, rfl, rfl, ?_⟩
        intro a w9 done val G H hdn hdep hev hout hE9 hok hge9
        refine ⟨(fun v b hb => by cases hb), ?_⟩
        have d4 : done 4 = true := by first | exact hdep ⟨4, .data⟩ (by simp) rfl | exact hdep ⟨4, .phase⟩ (by simp) rfl
        have e4 := hev 4 _ 23 rfl rfl (by simp) d4
        have k4 := hok 4 (by decide) d4
        replace k4 : val 4 = (.slice a2 C.length c2) := k4
        rw [k4] at e4
        clear k4
        simp [Act.eval] at e4
        clear d4
        clear hdep hev hout hok hge9
        exact step_goB 38 #[.tmp 23] #[24] rfl Tryz.func38 (by kernel_rfl) (by kernel_rfl) _ (by simp [Act.eval, e4]; try rfl) (qu.out w9 hE9)
      | 6, _ =>
        refine ⟨_, rfl, rfl, ?_⟩
        intro a w9 done val G H hdn hdep hev hout hE9 hok hge9
        refine ⟨(fun v b hb => by cases hb), ?_⟩
        have u7 : a.eval (.tmp 7) = .pointer (some ⟨g7, 0, none⟩) := (hout 7 (by kernel_rfl)).trans rfl
        simp [Act.eval] at u7
        clear hdep hev hout hok hge9
        refine step_val (w'' := w9) ?_ (Ext.refl _)
        go_simp
      | 7, _ =>
        refine ⟨_, rfl, rfl, ?_⟩
        intro a w9 done val G H hdn hdep hev hout hE9 hok hge9
        refine ⟨(fun v b hb => by cases hb), ?_⟩
        have d6 : done 6 = true := by first | exact hdep ⟨6, .data⟩ (by simp) rfl | exact hdep ⟨6, .phase⟩ (by simp) rfl
        have e6 := hev 6 _ 25 rfl rfl (by simp) d6
        have k6 := hok 6 (by decide) d6
        replace k6 : val 6 = (.pointer (some ⟨g7, 4, none⟩)) := k6
        rw [k6] at e6
        clear k6
        simp [Act.eval] at e6
        clear d6
        clear hdep hev hout hok hge9
        have y4 := hE9.cell s4
        refine step_val (w'' := w9) ?_ (Ext.refl _)
        go_simp
      | 8, _ =>
        refine ⟨_, rfl, rfl, ?_⟩
        intro a w9 done val G H hdn hdep hev hout hE9 hok hge9
        refine ⟨(fun v b hb => by cases hb), ?_⟩
        have d7 : done 7 = true := by first | exact hdep ⟨7, .data⟩ (by simp) rfl | exact hdep ⟨7, .phase⟩ (by simp) rfl
        have e7 := hev 7 _ 26 rfl rfl (by simp) d7
        have k7 := hok 7 (by decide) d7
        replace k7 : val 7 = (.slice a3 P.length c3) := k7
        rw [k7] at e7
        clear k7
        simp [Act.eval] at e7
        clear d7
        clear hdep hev hout hok hge9
        exact step_goB 39 #[.tmp 26] #[25] rfl Tryz.func39 (by kernel_rfl) (by kernel_rfl) _ (by simp [Act.eval, e7]; try rfl) (qh.out w9 hE9)
      | 9, _ =>
        refine ⟨_, rfl, rfl, ?_⟩
        intro a w9 done val G H hdn hdep hev hout hE9 hok hge9
        refine ⟨(fun v b hb => by cases hb), ?_⟩
        have u7 : a.eval (.tmp 7) = .pointer (some ⟨g7, 0, none⟩) := (hout 7 (by kernel_rfl)).trans rfl
        simp [Act.eval] at u7
        clear hdep hev hout hok hge9
        refine step_val (w'' := w9) ?_ (Ext.refl _)
        go_simp
      | i + 10, h => exact absurd h (by omega)
    case rest =>
      rintro done val w4 hall htl ⟨⟨hE4, G, H, hok, hge, hdis, _⟩, _⟩
      have e0 : done 0 = true := hall 0 (by decide)
      have e1 : done 1 = true := hall 1 (by decide)
      have e2 : done 2 = true := hall 2 (by decide)
      have e3 : done 3 = true := hall 3 (by decide)
      have e4 : done 4 = true := hall 4 (by decide)
      have e5 : done 5 = true := hall 5 (by decide)
      have e6 : done 6 = true := hall 6 (by decide)
      have e7 : done 7 = true := hall 7 (by decide)
      have e8 : done 8 = true := hall 8 (by decide)
      have e9 : done 9 = true := hall 9 (by decide)
      have e10 : done 10 = false := htl 10 (by decide)
      have e11 : done 11 = false := htl 11 (by decide)
      have e12 : done 12 = false := htl 12 (by decide)
      have e13 : done 13 = false := htl 13 (by decide)
      have e14 : done 14 = false := htl 14 (by decide)
      have k0 := hok 0 (by decide) e0
      replace k0 : val 0 = (.pointer (some ⟨g7, 2, none⟩)) := k0
      have k1 := hok 1 (by decide) e1
      replace k1 : val 1 = (.slice a1 I.length c1) := k1
      have k2 := hok 2 (by decide) e2
      replace k2 : OwnR EItm 36 I (G 2) (H 2) (val 2) w4 := k2
      have G2 := hge 2 (by decide) e2 rfl
      have k3 := hok 3 (by decide) e3
      replace k3 : val 3 = (.pointer (some ⟨g7, 3, none⟩)) := k3
      have k4 := hok 4 (by decide) e4
      replace k4 : val 4 = (.slice a2 C.length c2) := k4
      have k5 := hok 5 (by decide) e5
      replace k5 : OwnR EU32 37 C (G 5) (H 5) (val 5) w4 := k5
      have G5 := hge 5 (by decide) e5 rfl
      have k6 := hok 6 (by decide) e6
      replace k6 : val 6 = (.pointer (some ⟨g7, 4, none⟩)) := k6
      have k7 := hok 7 (by decide) e7
      replace k7 : val 7 = (.slice a3 P.length c3) := k7
      have k8 := hok 8 (by decide) e8
      replace k8 : OwnR ESlv 38 hs (G 8) (H 8) (val 8) w4 := k8
      have G8 := hge 8 (by decide) e8 rfl
      have k9 := hok 9 (by decide) e9
      replace k9 : val 9 = (.pointer (some ⟨g7, 2, none⟩)) := k9
      have N2_5 := hdis 2 5 (by decide) (by decide) (by decide) e2 e5 rfl rfl
      have N2_8 := hdis 2 8 (by decide) (by decide) (by decide) e2 e8 rfl rfl
      have N5_8 := hdis 5 8 (by decide) (by decide) (by decide) e5 e8 rfl rfl
      clear hok hge hdis hall htl
      simp only [putD, e0, e1, e2, e3, e4, e5, e6, e7, e8, e9, e10, e11, e12, e13, e14, if_true, if_false, Bool.false_eq_true, Nat.zero_add, Nat.reduceAdd, k0, k1, k3, k4, k6, k7, k9]
      clear e0 e1 e2 e3 e4 e5 e6 e7 e8 e9 e10 e11 e12 e13 e14 k0 k1 k3 k4 k6 k7 k9
      generalize val 2 = v2 at *
      generalize G 2 = lo2 at *
      generalize H 2 = hi2 at *
      generalize val 5 = v5 at *
      generalize G 5 = lo5 at *
      generalize H 5 = hi5 at *
      generalize val 8 = v8 at *
      generalize G 8 = lo8 at *
      generalize H 8 = hi8 at *
      simp only [List.drop_succ_cons, List.drop_zero]
      obtain ⟨a8, c8, hv8⟩ := k8.1.form
      rw [hhl.out] at hv8
      subst hv8
      have hB4 := hS.out.ext hE4
      have t2 : w4.cell? ⟨g7, 2, none⟩ = some (.slice a1 I.length c1) := hB4.cell 2
      have t3 : w4.cell? ⟨g7, 3, none⟩ = some (.slice a2 C.length c2) := hB4.cell 3
      have t4 : w4.cell? ⟨g7, 4, none⟩ = some (.slice a3 P.length c3) := hB4.cell 4
      have tf := fun i => hB4.frozen i
      have hB5 : Blk (((w4.setCell ⟨g7, 2, none⟩ v2).setCell ⟨g7, 3, none⟩ v5).setCell ⟨g7, 4, none⟩ (.slice a8 P.length c8)) g7 27 #[.string ⟨nm.toArray⟩, .int .i64 kd, v2, v5, .slice a8 P.length c8] := by
        simpa using ((hB4.set_ 2 v2).set_ 3 v5).set_ 4 (.slice a8 P.length c8)
      have hon5 : OnlyAt g7 w4 (((w4.setCell ⟨g7, 2, none⟩ v2).setCell ⟨g7, 3, none⟩ v5).setCell ⟨g7, 4, none⟩ (.slice a8 P.length c8)) := (((OnlyAt.refl g7 w4).setCell 2 v2).setCell 3 v5).setCell 4 (.slice a8 P.length c8)
      have o2 : v2.oneCell' = true := by obtain ⟨_, _, rfl⟩ := k2.1.form; rfl
      have o5 : v5.oneCell' = true := by obtain ⟨_, _, rfl⟩ := k5.1.form; rfl
      obtain ⟨b2, d2, rfl⟩ := k2.1.form
      obtain ⟨b5, d5, rfl⟩ := k5.1.form
      clear s2 s3 s4 hB4
      replace hB5 := hide hB5
      replace hon5 := hide hon5
      replace k2 := hide k2
      replace k5 := hide k5
      replace k8 := hide k8
      replace G2 := hide G2
      replace G5 := hide G5
      replace G8 := hide G8
      replace N2_5 := hide N2_5
      replace N2_8 := hide N2_8
      replace N5_8 := hide N5_8
      replace hE4 := hide hE4
      go_upto_region 6 with fail
      replace hB5 := hB5.out
      replace hon5 := hon5.out
      generalize (((w4.setCell ⟨g7, 2, none⟩ (.slice b2 I.length d2)).setCell ⟨g7, 3, none⟩ (.slice b5 C.length d5)).setCell ⟨g7, 4, none⟩ (.slice a8 P.length c8)) = W5 at hB5 hon5 ⊢
      clear t2 t3 t4 tf o2 o5
      have hg2 := G2.out.1
      have hg5 := G5.out.1
      have hg8 := G8.out.1
      have hlt7' := hlt7.out
      have hw3 := E3.out.size
      have hw34 := hE4.out.size
      have hw5 : W5.heap.size = w4.heap.size := hon5.size
      have r2 := k2.out.1.only hon5 (show g7 < lo2 by omega)
      have r5 := k5.out.1.only hon5 (show g7 < lo5 by omega)
      have r8 := k8.out.1.only hon5 (show g7 < lo8 by omega)
      have hlo8 : lo8 ≤ W5.heap.size := by have := G8.out; omega
      have hold : ∀ b, b < w1.heap.size → W5.heap[b]? = w1.heap[b]? := fun b hb => (hon5.block b (by omega)).trans ((hE3.out.trans hE4.out).block b hb)
      have hw1 := hE3.out.size
      have E5 := hon5.ext (E3.out.trans hE4.out) (show w.heap.size ≤ g7 by have := hgw.out.out; have := hgr.out; omega)
      have R5 := (hon5.block gr hne.out).trans ((hE4.out.block gr (show gr < W3.heap.size from Blk.lt R.out)).trans R.out)
      have hgr3 : gr < W3.heap.size := Blk.lt R.out
      have hv8 : ∀ b, (Value.slice a8 P.length c8).ownBlock = some b → lo8 ≤ b ∧ b < W5.heap.size := r8.lt
      have n2 : (Value.slice b2 I.length d2).ownBlock = none ∨ (Value.slice b2 I.length d2).ownBlock ≠ (Value.slice a8 P.length c8).ownBlock := by
        cases h : (Value.slice b2 I.length d2).ownBlock with
        | none => exact .inl rfl
        | some b => exact .inr fun e => by have h1 := r2.lt b h; have h2 := k2.out.2 b h; have h3 := r8.lt b e.symm; have h4 := k8.out.2 b e.symm; have h5 := N2_8.out; omega
      have n5 : (Value.slice b5 C.length d5).ownBlock = none ∨ (Value.slice b5 C.length d5).ownBlock ≠ (Value.slice a8 P.length c8).ownBlock := by
        cases h : (Value.slice b5 C.length d5).ownBlock with
        | none => exact .inl rfl
        | some b => exact .inr fun e => by have h1 := r5.lt b h; have h2 := k5.out.2 b h; have h3 := r8.lt b e.symm; have h4 := k8.out.2 b e.symm; have h5 := N5_8.out; omega
      clear k2 k5 k8 G2 G5 G8 N2_5 N2_8 N5_8 hE4 hon5 hS R E3 hE3 qi qu qh hlt7 hg7w
      have u4 : W5.cell? ⟨g7, 4, none⟩ = some (.slice a8 P.length c8) := hB5.cell 4
      replace hB5 := hide hB5
      replace r2 := hide r2
      replace r5 := hide r5
      replace r8 := hide r8
      replace hold := hide hold
      replace E5 := hide E5
      replace R5 := hide R5
      replace hv8 := hide hv8
      replace n2 := hide n2
      replace n5 := hide n5
      replace hlo8 := hide hlo8
      replace hg2 := hide hg2
      replace hg5 := hide hg5
      replace hg8 := hide hg8
      replace hlt7' := hide hlt7'
      replace hw3 := hide hw3
      replace hw34 := hide hw34
      replace hw5 := hide hw5
      replace hw1 := hide hw1
      replace hgr3 := hide hgr3
      replace hg7 := hide hg7
      go_wp2_with fail
      go_loopw [34] (fun q wr => ∃ m : Nat, m ≤ P.length ∧ q = .int .i64 (m : Int) ∧ ∃ hs', PreP wr W5.heap.size hs' hs P m ∧ Own ESlv 38 wr lo8 (.slice a8 P.length c8) hs' ∧ W5.grownBy wr (Value.slice a8 P.length c8).ownBlock) (fun q _ => P.length - (intOf q).toNat)
      case atStart => exact ⟨0, Nat.zero_le _, rfl, hs, ⟨hhl.out, fun i _ h => absurd h (Nat.not_lt_zero _), fun _ _ => rfl⟩, r8.out, World.grownBy.refl _ _⟩
      case round =>
        obtain ⟨m, hm, rfl, hs', hp, hrow, hgrow⟩ := hrel
        rename World => wr
        have hneg7 : some g7 ≠ (Value.slice a8 P.length c8).ownBlock := fun e => by have h1 := hv8.out g7 e.symm; have h2 := hlt7'.out; have h3 := hg8.out; omega
        have hB := hB5.out.grown hgrow hneg7
        have y4 : wr.cell? ⟨g7, 4, none⟩ = some (.slice a8 P.length c8) := hB.cell 4
        by_cases hlt : m < P.length
        · obtain ⟨g8, ca, hv, hga, hga'⟩ := hrow.formNe (by intro e; have := hp.1; rw [e] at this; simp at this; omega)
          injection hv with ha hn hc'
          subst ha hc'
          have hlm : m < hs'.length := by have := hp.1; omega
          obtain ⟨hcell, hfz⟩ := slv_cell hrow m hlm
          obtain ⟨x, hx, hx1, hx2, hx3⟩ := hhd.out m hlt
          have hxm : hs'[m] = x := by have h1 := hp.2.2 m (Nat.le_refl _); rw [hx, List.getElem?_eq_getElem hlm] at h1; exact Option.some.inj h1
          rw [hxm] at hcell
          clear hxm hx
          obtain ⟨ax, nx, cx⟩ := x
          dsimp only at hx1 hx2 hx3 hcell
          subst hx1
          have hg8W : g8 < W5.heap.size := (hv8.out g8 rfl).2
          have qa : ∀ W, Ext wr W → Calls Tryz.prog 40 #[.slice ax P[m].length cx] W fun e w' => ∃ v, e = .returned v ∧ Ext W w' ∧ OwnR EAtm 40 P[m] W.heap.size w'.heap.size v w' := fun W h => by
            have h1 := hw1.out; have h2 := hw34.out; have h3 := hw5.out; have h4 := hgrow.size; have h5 := h.size; have h6 := hg8.out
            refine (CloneA_any ax cx P[m] W hx2 ((hx3.frame fun b hb => ?_).mono fun b hb => ?_)).mono fun e w' ⟨v, he, hE, ho⟩ => ⟨v, he, hE, OwnR.of ho⟩
            · exact (h.block b (by omega)).trans ((hgrow.block b (by omega) fun e => by have := (hv8.out b e.symm).1; omega).trans (hold.out b hb))
            · omega
          obtain ⟨Q, hQ⟩ : ∃ Q, P[m] = Q := ⟨_, rfl⟩
          rw [hQ] at qa hcell
          clear hx2 hx3
          have hmi : (m : Int) < (P.length : Int) := by omega
          replace hB := hide hB
          replace hcell := hide hcell
          replace hfz := hide hfz
          replace hp := hide hp
          replace hrow := hide hrow
          replace hgrow := hide hgrow
          replace qa := hide qa
          replace hg8W := hide hg8W
          replace hneg7 := hide hneg7
          replace hga := hide hga
          replace hga' := hide hga'
          replace hn := hide hn
          replace hQ := hide hQ
          go_upto_region 9 with fail
          refine wp_region_JT 10 (J := JN wr 10 _ (fun i => match i with | 0 => .val (.pointer (some ⟨g7, 4, none⟩)) | 1 => .val (.slice (some ⟨g8, 0, none⟩) P.length c8) | 2 => .val (.int .i64 (m : Int)) | 3 => .val (.pointer (some ⟨g7, 4, none⟩)) | 4 => .val (.slice (some ⟨g8, 0, none⟩) P.length c8) | 5 => .val (.int .i64 (m : Int)) | 6 => .val (.pointer (some ⟨g8, m, none⟩)) | 7 => .val (.slice ax Q.length cx) | 8 => .any (OwnR EAtm 40 Q) | 9 => .val (.pointer (some ⟨g8, m, none⟩)) | _ => .val undef)) mixed (by kernel_rfl) (by kernel_rfl) (by kernel_rfl) (fun _ => undef) (JN.start _ _ _ _ _) (JN.keeps (by kernel_rfl) ?anys ?fill ?box ?steps) ?rest
          case anys =>
            intro i R hi hR
            replace hi : i < 10 := hi
            match i, hi, hR with
            | 0, _, hR => cases hR
            | 1, _, hR => cases hR
            | 2, _, hR => cases hR
            | 3, _, hR => cases hR
            | 4, _, hR => cases hR
            | 5, _, hR => cases hR
            | 6, _, hR => cases hR
            | 7, _, hR => cases hR
            | 8, _, hR => injection hR with hR; subst hR; exact OwnR.stays fun h => h
            | 9, _, hR => cases hR
            | i + 10, h, _ => exact absurd h (by omega)
          case fill =>
            intro i b hi hb
            replace hi : i < 10 := hi
            match i, hi, hb with
            | 0, _, hb => cases hb
            | 1, _, hb => cases hb
            | 2, _, hb => cases hb
            | 3, _, hb => cases hb
            | 4, _, hb => cases hb
            | 5, _, hb => cases hb
            | 6, _, hb => cases hb
            | 7, _, hb => cases hb
            | 8, _, hb => cases hb
            | 9, _, hb => cases hb
            | i + 10, h, _ => exact absurd h (by omega)
          case box =>
            intro b st t z cs hi hb
            replace hi : b < 10 := hi
            match b, hi, hb with
            | 0, _, hb => cases hb
            | 1, _, hb => cases hb
            | 2, _, hb => cases hb
            | 3, _, hb => cases hb
            | 4, _, hb => cases hb
            | 5, _, hb => cases hb
            | 6, _, hb => cases hb
            | 7, _, hb => cases hb
            | 8, _, hb => cases hb
            | 9, _, hb => cases hb
            | i + 10, h, _ => exact absurd h (by omega)
          case steps =>
            intro i hi
            replace hi : i < 10 := hi
            match i, hi with
            | 0, _ =>
              refine ⟨_, rfl, rfl, ?_⟩
              intro a w9 done val G H hdn hdep hev hout hE9 hok hge9
              refine ⟨(fun v b hb => by cases hb), ?_⟩
              have u7 : a.eval (.tmp 7) = .pointer (some ⟨g7, 0, none⟩) := (hout 7 (by kernel_rfl)).trans rfl
              simp [Act.eval] at u7
              clear hdep hev hout hok hge9
              refine step_val (w'' := w9) ?_ (Ext.refl _)
              go_simp
            | 1, _ =>
              refine ⟨_, rfl, rfl, ?_⟩
              intro a w9 done val G H hdn hdep hev hout hE9 hok hge9
              refine ⟨(fun v b hb => by cases hb), ?_⟩
              have d0 : done 0 = true := by first | exact hdep ⟨0, .data⟩ (by simp) rfl | exact hdep ⟨0, .phase⟩ (by simp) rfl
              have e0 := hev 0 _ 37 rfl rfl (by simp) d0
              have k0 := hok 0 (by decide) d0
              replace k0 : val 0 = (.pointer (some ⟨g7, 4, none⟩)) := k0
              rw [k0] at e0
              clear k0
              simp [Act.eval] at e0
              clear d0
              clear hdep hev hout hok hge9
              have y := hE9.cell y4
              refine step_val (w'' := w9) ?_ (Ext.refl _)
              go_simp
            | 2, _ =>
              refine ⟨_, rfl, rfl, ?_⟩
              intro a w9 done val G H hdn hdep hev hout hE9 hok hge9
              refine ⟨(fun v b hb => by cases hb), ?_⟩
              have u8 : a.eval (.tmp 8) = .int .i64 (m : Int) := (hout 8 (by kernel_rfl)).trans rfl
              simp [Act.eval] at u8
              clear hdep hev hout hok hge9
              refine step_val (w'' := w9) ?_ (Ext.refl _)
              go_simp
            | 3, _ =>
              refine ⟨_, rfl, rfl, ?_⟩
              intro a w9 done val G H hdn hdep hev hout hE9 hok hge9
              refine ⟨(fun v b hb => by cases hb), ?_⟩
              have u7 : a.eval (.tmp 7) = .pointer (some ⟨g7, 0, none⟩) := (hout 7 (by kernel_rfl)).trans rfl
              simp [Act.eval] at u7
              clear hdep hev hout hok hge9
              refine step_val (w'' := w9) ?_ (Ext.refl _)
              go_simp
            | 4, _ =>
              refine ⟨_, rfl, rfl, ?_⟩
              intro a w9 done val G H hdn hdep hev hout hE9 hok hge9
              refine ⟨(fun v b hb => by cases hb), ?_⟩
              have d3 : done 3 = true := by first | exact hdep ⟨3, .data⟩ (by simp) rfl | exact hdep ⟨3, .phase⟩ (by simp) rfl
              have e3 := hev 3 _ 40 rfl rfl (by simp) d3
              have k3 := hok 3 (by decide) d3
              replace k3 : val 3 = (.pointer (some ⟨g7, 4, none⟩)) := k3
              rw [k3] at e3
              clear k3
              simp [Act.eval] at e3
              clear d3
              clear hdep hev hout hok hge9
              have y := hE9.cell y4
              refine step_val (w'' := w9) ?_ (Ext.refl _)
              go_simp
            | 5, _ =>
              refine ⟨_, rfl, rfl, ?_⟩
              intro a w9 done val G H hdn hdep hev hout hE9 hok hge9
              refine ⟨(fun v b hb => by cases hb), ?_⟩
              have u8 : a.eval (.tmp 8) = .int .i64 (m : Int) := (hout 8 (by kernel_rfl)).trans rfl
              simp [Act.eval] at u8
              clear hdep hev hout hok hge9
              refine step_val (w'' := w9) ?_ (Ext.refl _)
              go_simp
            | 6, _ =>
              refine ⟨_, rfl, rfl, ?_⟩
              intro a w9 done val G H hdn hdep hev hout hE9 hok hge9
              refine ⟨(fun v b hb => by cases hb), ?_⟩
              have d4 : done 4 = true := by first | exact hdep ⟨4, .data⟩ (by simp) rfl | exact hdep ⟨4, .phase⟩ (by simp) rfl
              have e4 := hev 4 _ 41 rfl rfl (by simp) d4
              have k4 := hok 4 (by decide) d4
              replace k4 : val 4 = (.slice (some ⟨g8, 0, none⟩) P.length c8) := k4
              rw [k4] at e4
              clear k4
              simp [Act.eval] at e4
              clear d4
              have d5 : done 5 = true := by first | exact hdep ⟨5, .data⟩ (by simp) rfl | exact hdep ⟨5, .phase⟩ (by simp) rfl
              have e5 := hev 5 _ 42 rfl rfl (by simp) d5
              have k5 := hok 5 (by decide) d5
              replace k5 : val 5 = (.int .i64 (m : Int)) := k5
              rw [k5] at e5
              clear k5
              simp [Act.eval] at e5
              clear d5
              clear hdep hev hout hok hge9
              refine step_val (w'' := w9) ?_ (Ext.refl _)
              go_simp
            | 7, _ =>
              refine ⟨_, rfl, rfl, ?_⟩
              intro a w9 done val G H hdn hdep hev hout hE9 hok hge9
              refine ⟨(fun v b hb => by cases hb), ?_⟩
              have d6 : done 6 = true := by first | exact hdep ⟨6, .data⟩ (by simp) rfl | exact hdep ⟨6, .phase⟩ (by simp) rfl
              have e6 := hev 6 _ 43 rfl rfl (by simp) d6
              have k6 := hok 6 (by decide) d6
              replace k6 : val 6 = (.pointer (some ⟨g8, m, none⟩)) := k6
              rw [k6] at e6
              clear k6
              simp [Act.eval] at e6
              clear d6
              clear hdep hev hout hok hge9
              have y := hE9.cell hcell.out
              refine step_val (w'' := w9) ?_ (Ext.refl _)
              go_simp
            | 8, _ =>
              refine ⟨_, rfl, rfl, ?_⟩
              intro a w9 done val G H hdn hdep hev hout hE9 hok hge9
              refine ⟨(fun v b hb => by cases hb), ?_⟩
              have d7 : done 7 = true := by first | exact hdep ⟨7, .data⟩ (by simp) rfl | exact hdep ⟨7, .phase⟩ (by simp) rfl
              have e7 := hev 7 _ 44 rfl rfl (by simp) d7
              have k7 := hok 7 (by decide) d7
              replace k7 : val 7 = (.slice ax Q.length cx) := k7
              rw [k7] at e7
              clear k7
              simp [Act.eval] at e7
              clear d7
              clear hdep hev hout hok hge9
              exact step_goB 40 #[.tmp 44] #[38] rfl Tryz.func40 (by kernel_rfl) (by kernel_rfl) _ (by simp [Act.eval, e7]; try rfl) (qa.out w9 hE9)
            | 9, _ =>
              refine ⟨_, rfl, rfl, ?_⟩
              intro a w9 done val G H hdn hdep hev hout hE9 hok hge9
              refine ⟨(fun v b hb => by cases hb), ?_⟩
              have d1 : done 1 = true := by first | exact hdep ⟨1, .data⟩ (by simp) rfl | exact hdep ⟨1, .phase⟩ (by simp) rfl
              have e1 := hev 1 _ 38 rfl rfl (by simp) d1
              have k1 := hok 1 (by decide) d1
              replace k1 : val 1 = (.slice (some ⟨g8, 0, none⟩) P.length c8) := k1
              rw [k1] at e1
              clear k1
              simp [Act.eval] at e1
              clear d1
              have d2 : done 2 = true := by first | exact hdep ⟨2, .data⟩ (by simp) rfl | exact hdep ⟨2, .phase⟩ (by simp) rfl
              have e2 := hev 2 _ 39 rfl rfl (by simp) d2
              have k2 := hok 2 (by decide) d2
              replace k2 : val 2 = (.int .i64 (m : Int)) := k2
              rw [k2] at e2
              clear k2
              simp [Act.eval] at e2
              clear d2
              clear hdep hev hout hok hge9
              refine step_val (w'' := w9) ?_ (Ext.refl _)
              go_simp
            | i + 10, h => exact absurd h (by omega)
          case rest =>
            rintro done val w5 hall htl ⟨⟨hE5, G, H, hok, hge, hdis, _⟩, _⟩
            have e0 : done 0 = true := hall 0 (by decide)
            have e1 : done 1 = true := hall 1 (by decide)
            have e2 : done 2 = true := hall 2 (by decide)
            have e3 : done 3 = true := hall 3 (by decide)
            have e4 : done 4 = true := hall 4 (by decide)
            have e5 : done 5 = true := hall 5 (by decide)
            have e6 : done 6 = true := hall 6 (by decide)
            have e7 : done 7 = true := hall 7 (by decide)
            have e8 : done 8 = true := hall 8 (by decide)
            have e9 : done 9 = true := hall 9 (by decide)
            have e10 : done 10 = false := htl 10 (by decide)
            have k0 := hok 0 (by decide) e0
            replace k0 : val 0 = (.pointer (some ⟨g7, 4, none⟩)) := k0
            have k1 := hok 1 (by decide) e1
            replace k1 : val 1 = (.slice (some ⟨g8, 0, none⟩) P.length c8) := k1
            have k2 := hok 2 (by decide) e2
            replace k2 : val 2 = (.int .i64 (m : Int)) := k2
            have k3 := hok 3 (by decide) e3
            replace k3 : val 3 = (.pointer (some ⟨g7, 4, none⟩)) := k3
            have k4 := hok 4 (by decide) e4
            replace k4 : val 4 = (.slice (some ⟨g8, 0, none⟩) P.length c8) := k4
            have k5 := hok 5 (by decide) e5
            replace k5 : val 5 = (.int .i64 (m : Int)) := k5
            have k6 := hok 6 (by decide) e6
            replace k6 : val 6 = (.pointer (some ⟨g8, m, none⟩)) := k6
            have k7 := hok 7 (by decide) e7
            replace k7 : val 7 = (.slice ax Q.length cx) := k7
            have k8 := hok 8 (by decide) e8
            replace k8 : OwnR EAtm 40 Q (G 8) (H 8) (val 8) w5 := k8
            have G8 := hge 8 (by decide) e8 rfl
            have k9 := hok 9 (by decide) e9
            replace k9 : val 9 = (.pointer (some ⟨g8, m, none⟩)) := k9
            clear hok hge hdis hall htl
            simp only [putD, e0, e1, e2, e3, e4, e5, e6, e7, e8, e9, e10, if_true, if_false, Bool.false_eq_true, Nat.zero_add, Nat.reduceAdd, k0, k1, k2, k3, k4, k5, k6, k7, k9]
            clear e0 e1 e2 e3 e4 e5 e6 e7 e8 e9 e10 k0 k1 k2 k3 k4 k5 k6 k7 k9
            generalize val 8 = v8n at *
            generalize G 8 = lo8n at *
            generalize H 8 = hi8n at *
            simp only [List.drop_succ_cons, List.drop_zero]
            obtain ⟨ai, ci, hv⟩ := k8.1.form
            subst hv
            have hc5 : w5.cell? ⟨g8, m, none⟩ = some (.slice ax Q.length cx) := hE5.cell hcell.out
            have hf5 : w5.frozen? ⟨g8, m, none⟩ = false := (World.frozen?_of_block (a := ⟨g8, m, none⟩) (hE5.block g8 hga'.out)).trans hfz.out
            have hst := slv_set (hrow.out.ext hE5) m hlm (ai, Q.length, ci)
            have hq9 : Own EAtm 40 w5 W5.heap.size (.slice ai P[m].length ci) P[m] := by
              rw [hQ.out]
              exact k8.1.low (by have := G8.1; have := hgrow.out.size; omega)
            have hpp := hp.out.step hlt hE5 hq9 hg8W.out m (.slice ai P[m].length ci)
            rw [hQ.out] at hpp
            have hgg : W5.grownBy (w5.setCell ⟨g8, m, none⟩ (.slice ai Q.length ci)) (some g8) := (hgrow.out.trans ⟨hE5.os, hE5.tape, hE5.output, hE5.size, fun k hk _ => hE5.block k hk⟩).trans (grown_cellZ w5 g8 m _)
            clear hq9 k8 G8 hE5 hcell hfz hp hrow hgrow qa y4 hB hmi
            replace hst := hide hst
            replace hpp := hide hpp
            replace hgg := hide hgg
            go_wp2_with fail
            go_roundw
            case rel => exact ⟨m + 1, by omega, by go_num, _, hpp.out, hst.out, hgg.out⟩
            case measure => simp [intOf]; omega
        · obtain rfl : m = P.length := by omega
          have hmm : ∀ i (hi : i < P.length), P[i].length ≤ 16777216 := fun i hi => by
            obtain ⟨x, _, _, h2, _⟩ := hhd.out i hi
            exact h2
          obtain ⟨hP, hin⟩ := hp.done hrow hlo8.out (fun b hb => (hv8.out b hb).2) hmm
          have hEw := E5.out.grown hgrow (fun b hb => by have h1 := (hv8.out b hb).1; have h2 := hg8.out; have h3 := hw3.out; omega)
          have q2 := own_kept (fun h => h) r2.out hgrow n2.out
          have q5 := own_kept (fun h => h) r5.out hgrow n5.out
          have hRr : Blk wr gr 27 #[.string ⟨#[]⟩, .int .i64 0, .slice none 0 0, .slice none 0 0, .slice none 0 0] := (hgrow.block gr (by have h1 := hgr3.out; have h2 := hw34.out; have h3 := hw5.out; omega) (fun e => by have h1 := (hv8.out gr e.symm).1; have h2 := hg8.out; have h3 := hgr3.out; omega)).trans R5.out
          have y0 : wr.cell? ⟨g7, 0, none⟩ = some (.string ⟨nm.toArray⟩) := hB.cell 0
          have y1 : wr.cell? ⟨g7, 1, none⟩ = some (.int .i64 kd) := hB.cell 1
          have y2 : wr.cell? ⟨g7, 2, none⟩ = some (.slice b2 I.length d2) := hB.cell 2
          have y3 : wr.cell? ⟨g7, 3, none⟩ = some (.slice b5 C.length d5) := hB.cell 3
          have r0' : wr.cell? ⟨gr, 0, none⟩ = some (.string ⟨#[]⟩) := hRr.cell 0
          have r1' : wr.cell? ⟨gr, 1, none⟩ = some (.int .i64 0) := hRr.cell 1
          have r2' : wr.cell? ⟨gr, 2, none⟩ = some (.slice none 0 0) := hRr.cell 2
          have r3' : wr.cell? ⟨gr, 3, none⟩ = some (.slice none 0 0) := hRr.cell 3
          have r4' : wr.cell? ⟨gr, 4, none⟩ = some (.slice none 0 0) := hRr.cell 4
          have rf := fun i => hRr.frozen i
          have hZ := hRr.set5w (.string ⟨nm.toArray⟩) (.int .i64 kd) (.slice b2 I.length d2) (.slice b5 C.length d5) (.slice a8 P.length c8)
          have hon : OnlyAt gr wr _ := OnlyAt.set5w (g := gr) (w := wr) (.string ⟨nm.toArray⟩) (.int .i64 kd) (.slice b2 I.length d2) (.slice b5 C.length d5) (.slice a8 P.length c8)
          have hEZ := hon.ext hEw hgw.out.out
          have z2 := (q2.only hon (show gr < lo2 by have h1 := hgr3.out; have h2 := hg2.out; omega)).low (show w.heap.size ≤ lo2 by have h1 := hw3.out; have h2 := hg2.out; omega)
          have z5 := (q5.only hon (show gr < lo5 by have h1 := hgr3.out; have h2 := hg5.out; omega)).low (show w.heap.size ≤ lo5 by have h1 := hw3.out; have h2 := hg5.out; omega)
          have hgl8 : gr < lo8 := by have h1 := hgr3.out; have h2 := hg8.out; omega
          have z8 := (hP.only hon hgl8).low (show w.heap.size ≤ lo8 by have h1 := hw3.out; have h2 := hg8.out; omega)
          have hne2 : ∀ b, (Value.slice a8 P.length c8).ownBlock = some b → (Value.slice b2 I.length d2).ownBlock ≠ some b ∧ (Value.slice b5 C.length d5).ownBlock ≠ some b := fun b hb =>
            ⟨fun e => by
              rcases n2.out with h | h
              · rw [h] at e; cases e
              · exact h (e.trans hb.symm), fun e => by
              rcases n5.out with h | h
              · rw [h] at e; cases e
              · exact h (e.trans hb.symm)⟩
          have hin' := fun i (hi : i < P.length) b a c hb hc => ((hin i hi b a c hb ((World.cell?_of_block (a := ⟨b, i, none⟩) (hon.block b (by have h1 := (hv8.out b hb).1; omega))).symm.trans hc)).only hon hgl8).low (show w.heap.size ≤ lo8 by have h1 := hw3.out; have h2 := hg8.out; omega)
          have hfin := hyes'.out _ _ _ _ hEZ z2 z5 z8 hne2 hin'
          clear hEw q2 q5 hRr hP hin hmm hon hEZ z2 z5 z8 hne2 hin' hp hrow hgrow hB hneg7
          replace hZ := hide hZ
          replace hfin := hide hfin
          go_wp2
          replace hZ := hZ.out
          replace hfin := hfin.out
          generalize (((((wr.setCell ⟨gr, 0, none⟩ (.string ⟨nm.toArray⟩)).setCell ⟨gr, 1, none⟩ (.int .i64 kd)).setCell ⟨gr, 2, none⟩ (.slice b2 I.length d2)).setCell ⟨gr, 3, none⟩ (.slice b5 C.length d5)).setCell ⟨gr, 4, none⟩ (.slice a8 P.length c8)) = W6 at hZ hfin ⊢
          have z0 : W6.cell? ⟨gr, 0, none⟩ = some (.string ⟨nm.toArray⟩) := hZ.cell 0
          have z1 : W6.cell? ⟨gr, 1, none⟩ = some (.int .i64 kd) := hZ.cell 1
          have z2 : W6.cell? ⟨gr, 2, none⟩ = some (.slice b2 I.length d2) := hZ.cell 2
          have z3 : W6.cell? ⟨gr, 3, none⟩ = some (.slice b5 C.length d5) := hZ.cell 3
          have z4 : W6.cell? ⟨gr, 4, none⟩ = some (.slice a8 P.length c8) := hZ.cell 4
          exact bodyPost_ret (v := .tuple #[.agg #[.string ⟨nm.toArray⟩, .int .i64 kd, .slice b2 I.length d2, .slice b5 C.length d5, .slice a8 P.length c8], .bool true]) (by simp [results, Tryz.results9, go_sem, z0, z1, z2, z3, z4]) rfl hfin
end Go.Proofs.YtoghdmoldcjedaaGreatDoor
