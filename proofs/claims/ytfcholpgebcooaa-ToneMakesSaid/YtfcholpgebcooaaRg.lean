/- A region whose order is drawn: walked op by op, each in whatever world the others leave, by a fact a slot. -/
import Derived.StillTail
import Derived.Tactics2
import Derived.KernelRfl
import Derived.Below
namespace Go
set_option linter.unusedSimpArgs false
set_option linter.unusedVariables false
section
variable {P : Program} {ops : Array Oper} {md : Region.Mode}

def dstOf (ops : Array Oper) (j : Nat) : Option Tmp := (ops[j]?).bind (·.dst)
/-- What must have run before operation k. -/
def depsOf (md : Region.Mode) (o : Oper) : List Nat := (o.after.toList.filter (Region.binds md ·)).map (·.on)

def frameFor (ops : Array Oper) (ν : Nat → Value) (a : Act) (js : List Nat) : Act := js.foldl (fun a j => a.put (dstOf ops j) (ν j)) a

/-- An operation gives a value of which R holds. -/
def Oper.givesUpon (P : Program) (R : Value → World → Prop) : Result Next → Prop
  | .ok (.value v) w => R v w
  | .ok .skip w => R undef w
  | .ok (.enter f args) w => Calls P f args w fun e w' => ∃ v, e = .returned v ∧ R v w'
  | .ok (.row row args) w => Rows P row args w R
  | _ => False
def Oper.gives (P : Program) (o : Oper) (a : Act) (w : World) (R : Value → World → Prop) : Prop := Oper.givesUpon P R ((execOp a.eval o).run P w)

theorem gives_value (R : Value → World → Prop) (v : Value) (w : World) : Oper.givesUpon P R (.ok (.value v) w) = R v w := rfl
theorem gives_skip (R : Value → World → Prop) (w : World) : Oper.givesUpon P R (.ok .skip w) = R undef w := rfl
theorem gives_enter (R : Value → World → Prop) (f : FuncId) (args : Array Value) (w : World) : Oper.givesUpon P R (.ok (.enter f args) w) = Calls P f args w fun e w' => ∃ v, e = .returned v ∧ R v w' := rfl
theorem gives_row (R : Value → World → Prop) (f : String) (args : Array Value) (w : World) : Oper.givesUpon P R (.ok (.row f args) w) = Rows P f args w R := rfl
attribute [go_sem] gives_value gives_skip gives_enter gives_row

theorem Oper.wp_of_gives {o : Oper} {a : Act} {w : World} {R : Value → World → Prop} {K : Act → World → Prop} {Q : Exit → Act → World → Prop}
    (h : o.gives P a w R) (hK : ∀ v w', R v w' → K (a.put o.dst v) w') : o.wp P a w K Q := by
  unfold Oper.gives at h
  unfold Oper.wp
  generalize (execOp a.eval o).run P w = r at *
  cases r with
  | ok n w' =>
    cases n <;> simp only [Oper.givesUpon] at h <;> simp only [Oper.upon]
    case value v => exact hK _ _ h
    case skip => exact hK _ _ h
    case enter f args =>
      refine Calls.mono h fun e w'' he => ?_
      obtain ⟨v, rfl, hr⟩ := he
      exact hK _ _ hr
    case row f args => exact Rows.mono h fun v w'' hr => hK _ _ hr
  | halt x w' => simp only [Oper.givesUpon] at h

/-- Operation o, if it is wanted. -/
def Oper.step (P : Program) (ops : Array Oper) (o : Oper) (a : Act) (w : World) (R : Value → World → Prop) (Q : Exit → Act → World → Prop) : Prop :=
  if Region.wanted o (yielded ops a.tmps) then o.gives P a w R ∨ (o.asks P a w ∧ LetsOut Q) else R undef w

/-- The frame when the operations of 'listed' have run. -/
def frAt (ops : Array Oper) (n : Nat) (ν : Nat → Value) (a : Act) (listed : Array Bool) : Act :=
  { tmps := a.tmps.mapIdx fun t v => match (List.range n).find? (fun j => dstOf ops j == some t) with
      | some j => if listed.getD j false then ν j else v
      | none => v
    defers := a.defers }

def dstsApart (ops : Array Oper) (n : Nat) : Bool :=
  (List.range n).all fun i => (List.range n).all fun j => i == j || (dstOf ops i).isNone || !(dstOf ops i == dstOf ops j)
theorem dstsApart_spec {n : Nat} (h : dstsApart ops n = true) {i j : Nat} (hi : i < n) (hj : j < n) {d : Tmp} (h1 : dstOf ops i = some d) (h2 : dstOf ops j = some d) : i = j := by
  have := List.all_eq_true.1 (List.all_eq_true.1 h i (List.mem_range.2 hi)) j (List.mem_range.2 hj)
  simp [h1, h2] at this
  exact this
theorem find_writer {n : Nat} (h : dstsApart ops n = true) {j : Nat} (hj : j < n) {t : Tmp} (hd : dstOf ops j = some t) :
    (List.range n).find? (fun j => dstOf ops j == some t) = some j := by
  cases hf : (List.range n).find? (fun j => dstOf ops j == some t) with
  | none =>
    have := List.find?_eq_none.1 hf j (List.mem_range.2 hj)
    simp [hd] at this
  | some i =>
    have h1 := List.find?_some hf
    have h2 := List.mem_of_find?_eq_some hf
    exact congrArg some (dstsApart_spec h (List.mem_range.1 h2) hj (by simpa using h1) hd)

theorem frAt_get {n : Nat} {ν : Nat → Value} {a : Act} {listed : Array Bool} (h : dstsApart ops n = true) {j : Nat} (hj : j < n) {t : Tmp} (hd : dstOf ops j = some t) :
    (frAt ops n ν a listed).tmps[t]? = (a.tmps[t]?).map fun v => if listed.getD j false then ν j else v := by
  simp only [frAt, Array.getElem?_mapIdx, find_writer h hj hd]
theorem frAt_get_none {n : Nat} {ν : Nat → Value} {a : Act} {listed : Array Bool} {t : Tmp} (hd : ∀ j, j < n → dstOf ops j = some t → listed.getD j false = false) :
    (frAt ops n ν a listed).tmps[t]? = a.tmps[t]? := by
  simp only [frAt, Array.getElem?_mapIdx]
  cases hf : (List.range n).find? (fun j => dstOf ops j == some t) with
  | none => simp
  | some i =>
    have h1 := List.find?_some hf
    have h2 := List.mem_of_find?_eq_some hf
    have := hd i (List.mem_range.1 h2) (by simpa using h1)
    simp only [this]
    simp

theorem frameFor_defers (ν : Nat → Value) : ∀ (js : List Nat) (a : Act), (frameFor ops ν a js).defers = a.defers
  | [], _ => rfl
  | j :: js, a => by
    unfold frameFor
    rw [List.foldl_cons]
    refine (frameFor_defers ν js _).trans ?_
    cases h : dstOf ops j <;> simp [Act.put]
theorem frameFor_get_none (ν : Nat → Value) {t : Tmp} : ∀ (js : List Nat) (a : Act), (∀ j ∈ js, dstOf ops j ≠ some t) → (frameFor ops ν a js).tmps[t]? = a.tmps[t]?
  | [], _, _ => rfl
  | j :: js, a, h => by
    unfold frameFor
    rw [List.foldl_cons]
    refine (frameFor_get_none ν js _ (fun i hi => h i (List.mem_cons_of_mem _ hi))).trans ?_
    have := h j List.mem_cons_self
    cases hd : dstOf ops j with
    | none => rfl
    | some d =>
      have hne : d ≠ t := fun e => this (by rw [hd, e])
      simp [Act.put, Array.getElem?_setIfInBounds_ne hne]
theorem frameFor_get (ν : Nat → Value) {t : Tmp} {j : Nat} : ∀ (js : List Nat) (a : Act), j ∈ js → dstOf ops j = some t → (∀ i ∈ js, dstOf ops i = some t → i = j) →
    (frameFor ops ν a js).tmps[t]? = (a.tmps[t]?).map fun _ => ν j
  | [], _, h, _, _ => by cases h
  | i :: js, a, h, hd, hu => by
    unfold frameFor
    rw [List.foldl_cons]
    by_cases hin : j ∈ js
    · refine (frameFor_get ν js _ hin hd (fun i hi => hu i (List.mem_cons_of_mem _ hi))).trans ?_
      cases hdi : dstOf ops i with
      | none => rfl
      | some d =>
        by_cases hdt : d = t
        · subst hdt
          simp only [Act.put, Array.getElem?_setIfInBounds_self]
          split
          · rename_i hlt; simp [hlt]
          · rename_i hlt; simp at hlt; simp [hlt]
        · simp [Act.put, Array.getElem?_setIfInBounds_ne hdt]
    · have hji : j = i := by
        rcases List.mem_cons.1 h with h | h
        · exact h
        · exact absurd h hin
      subst hji
      refine (frameFor_get_none ν js _ (fun i hi hdi => hin (hu i (List.mem_cons_of_mem _ hi) hdi ▸ hi))).trans ?_
      simp only [hd, Act.put, Array.getElem?_setIfInBounds_self]
      split
      · rename_i hlt; simp [hlt]
      · rename_i hlt; simp at hlt; simp [hlt]

/-- The checks on the region's text. -/
def depsBelow (md : Region.Mode) (ops : Array Oper) : Bool :=
  (List.range ops.size).all fun k => match ops[k]? with
    | some o => (depsOf md o).all (· < k)
    | none => true
def looksOk (md : Region.Mode) (ops : Array Oper) (n : Nat) : Bool :=
  (List.range n).all fun k => match ops[k]? with
    | some o => (o.looksAt ops).all fun t =>
        (depsOf md o).any (fun j => dstOf ops j == some t) ||
        (List.range n).all (fun j => !(dstOf ops j == some t) || j == k || match ops[j]? with
          | some oj => (depsOf md oj).contains k
          | none => false)
    | none => true
def regionOk (md : Region.Mode) (ops : Array Oper) (n : Nat) : Bool :=
  Region.noSelect ops && dstsApart ops n && depsBelow md ops && looksOk md ops n && decide (n ≤ ops.size) &&
  (decide (n = ops.size) || (decide (n < ops.size) && Region.sinkB md ops n && Region.chainB md ops n && Region.seqB md ops (ops.size - n) n ((List.range ops.size).map (decide <| · < n)).toArray))

theorem depsBelow_spec (h : depsBelow md ops = true) {k j : Nat} {o : Oper} (hk : ops[k]? = some o) (hj : j ∈ depsOf md o) : j < k := by
  have := List.all_eq_true.1 h k (List.mem_range.2 (Array.getElem?_eq_some_iff.1 hk).1)
  simp only [hk, List.all_eq_true, decide_eq_true_eq] at this
  exact this j hj
theorem mem_depsOf {o : Oper} {j : Nat} : j ∈ depsOf md o ↔ ∃ e ∈ o.after, Region.binds md e = true ∧ e.on = j := by
  simp only [depsOf, List.mem_map, List.mem_filter, Array.mem_toList_iff]
  exact ⟨fun ⟨e, ⟨h1, h2⟩, h3⟩ => ⟨e, h1, h2, h3⟩, fun ⟨e, h1, h2, h3⟩ => ⟨e, ⟨h1, h2⟩, h3⟩⟩

theorem looks_agree {n : Nat} (hap : dstsApart ops n = true) (hdb : depsBelow md ops = true) (hlo : looksOk md ops n = true) {k : Nat} {o : Oper} (hk : ops[k]? = some o) (hkn : k < n)
    {listed : Array Bool} (hun : listed.getD k false = false) (hdeps : ∀ j ∈ depsOf md o, listed.getD j false = true)
    (hclosed : ∀ j oj, ops[j]? = some oj → listed.getD j false = true → ∀ e ∈ oj.after, Region.binds md e = true → listed.getD e.on false = true)
    (ν : Nat → Value) (a : Act) {t : Tmp} (ht : t ∈ o.looksAt ops) : (frAt ops n ν a listed).tmps[t]? = (frameFor ops ν a (depsOf md o)).tmps[t]? := by
  have h0 := List.all_eq_true.1 hlo k (List.mem_range.2 hkn)
  simp only [hk] at h0
  have h1 := List.all_eq_true.1 h0 t ht
  rw [Bool.or_eq_true] at h1
  rcases h1 with h1 | h1
  · obtain ⟨j, hj, hd⟩ := List.any_eq_true.1 h1
    have hd' : dstOf ops j = some t := by simpa using hd
    have hjk := depsBelow_spec hdb hk hj
    rw [frAt_get hap (by omega) hd', frameFor_get ν _ _ hj hd' (fun i hi hdi => dstsApart_spec hap (Nat.lt_trans (depsBelow_spec hdb hk hi) hkn) (by omega) hdi hd'), hdeps j hj]
    simp
  · have h2 : ∀ j, j < n → dstOf ops j = some t → j = k ∨ ∃ oj, ops[j]? = some oj ∧ k ∈ depsOf md oj := by
      intro j hj hd
      have h3 := List.all_eq_true.1 h1 j (List.mem_range.2 hj)
      simp only [hd, beq_self_eq_true, Bool.not_true, Bool.false_or, Bool.or_eq_true, beq_iff_eq] at h3
      rcases h3 with h3 | h3
      · exact .inl h3
      · cases hoj : ops[j]? with
        | none => simp [hoj] at h3
        | some oj => exact .inr ⟨oj, rfl, by simpa [hoj] using h3⟩
    rw [frAt_get_none, frameFor_get_none]
    · intro j hj hd
      have hjk := depsBelow_spec hdb hk hj
      rcases h2 j (by omega) hd with h3 | ⟨oj, hoj, h3⟩
      · omega
      · have := depsBelow_spec hdb hoj h3
        omega
    · intro j hj hd
      rcases h2 j hj hd with h3 | ⟨oj, hoj, h3⟩
      · rw [h3]; exact hun
      · cases hl : listed.getD j false with
        | false => rfl
        | true =>
          obtain ⟨e, he, hb, hon⟩ := mem_depsOf.1 h3
          have := hclosed j oj hoj hl e he hb
          rw [hon, hun] at this
          cases this

theorem execOp_agree (o : Oper) (hs : ∀ cs b, o.op ≠ .select cs b) {a b : Act} (h : ∀ t ∈ o.looksAt ops, a.tmps[t]? = b.tmps[t]?) : execOp a.eval o = execOp b.eval o :=
  execOp_congr o hs fun x hx => by
    cases x with
    | tmp t =>
      have := h t (List.mem_append_left _ (List.mem_filterMap.2 ⟨.tmp t, by simpa using hx, rfl⟩))
      simp [Act.eval, Array.getD_eq_getD_getElem?, this]
    | _ => rfl
theorem wanted_agree (o : Oper) {a b : Act} (h : ∀ t ∈ o.looksAt ops, a.tmps[t]? = b.tmps[t]?) : Region.wanted o (yielded ops a.tmps) = Region.wanted o (yielded ops b.tmps) := by
  unfold Region.wanted
  cases hg : o.guard with
  | none => rfl
  | some gw =>
    obtain ⟨g, want⟩ := gw
    have hy : yielded ops a.tmps g = yielded ops b.tmps g := by
      unfold yielded
      cases ht : (ops[g]?).bind (·.dst) with
      | none => rfl
      | some t =>
        have := h t (by simp [Oper.looksAt, hg, ht])
        simp [this]
    simp only [hy]

theorem frAt_put {n : Nat} (hap : dstsApart ops n = true) {k : Nat} (hkn : k < n) {o : Oper} (hk : ops[k]? = some o) {listed : Array Bool} (hsz : listed.size = ops.size) (hun : listed.getD k false = false)
    (ν : Nat → Value) (a : Act) (v : Value) :
    (frAt ops n ν a listed).put o.dst v = frAt ops n (fun j => if j = k then v else ν j) a (listed.setIfInBounds k true) := by
  have hks : k < listed.size := by rw [hsz]; exact (Array.getElem?_eq_some_iff.1 hk).1
  have hset : ∀ j, (listed.setIfInBounds k true).getD j false = if j = k then true else listed.getD j false := by
    intro j
    by_cases hjk : j = k
    · subst hjk; simp [hks]
    · rw [getD_set_ne false (Ne.symm hjk), if_neg hjk]
  have hdk : dstOf ops k = o.dst := by simp [dstOf, hk]
  have main : ∀ t v', (match (List.range n).find? (fun j => dstOf ops j == some t) with
      | some j => if (listed.setIfInBounds k true).getD j false then (if j = k then v else ν j) else v'
      | none => v') = if o.dst = some t then v else (match (List.range n).find? (fun j => dstOf ops j == some t) with
      | some j => if listed.getD j false then ν j else v'
      | none => v') := by
    intro t v'
    by_cases hd : o.dst = some t
    · rw [find_writer hap hkn (hdk.trans hd)]
      simp [hset, hd]
    · rw [if_neg hd]
      cases hf : (List.range n).find? (fun j => dstOf ops j == some t) with
      | none => rfl
      | some j =>
        have h1 := List.find?_some hf
        have hjk : j ≠ k := fun e => hd (by rw [← hdk, ← e]; simpa using h1)
        simp [hset, hjk]
  cases hd : o.dst with
  | none =>
    simp only [Act.put, frAt]
    congr 1
    refine Array.ext (by simp) fun t h1 h2 => ?_
    simp only [Array.getElem_mapIdx]
    rw [main]
    simp [hd]
  | some d =>
    simp only [Act.put, frAt]
    congr 1
    refine Array.ext (by simp) fun t h1 h2 => ?_
    simp only [Array.getElem_mapIdx]
    rw [main]
    rw [Array.getElem_setIfInBounds (by simpa using h2)]
    simp only [Array.getElem_mapIdx, hd, Option.some.injEq]

theorem countP_lt {α : Type} {p q : α → Bool} : ∀ {l : List α}, (∀ x ∈ l, p x = true → q x = true) → (∃ x ∈ l, q x = true ∧ p x = false) → l.countP p < l.countP q
  | [], _, ⟨x, hx, _⟩ => by cases hx
  | y :: l, h, ⟨x, hx, h1, h2⟩ => by
    have hle : l.countP p ≤ l.countP q := List.countP_mono_left fun z hz => h z (List.mem_cons_of_mem _ hz)
    simp only [List.countP_cons]
    rcases List.mem_cons.1 hx with rfl | hx
    · simp [h1, h2]; omega
    · have := countP_lt (p := p) (q := q) (fun z hz => h z (List.mem_cons_of_mem _ hz)) ⟨x, hx, h1, h2⟩
      have hy := h y List.mem_cons_self
      cases hp : p y <;> cases hq : q y <;> simp [hp, hq] at hy ⊢ <;> omega

theorem wpAny_more {Q : Exit → Act → World → Prop} : ∀ (f : Nat) (listed : Array Bool) (a : Act) (w : World), wpAny P md ops Q f listed a w → wpAny P md ops Q (f + 1) listed a w
  | 0, _, _, _, h => ⟨fun _ => h.2, fun i hi => by rw [h.1] at hi; cases hi⟩
  | f + 1, _, _, _, h => ⟨h.1, fun i hi => wpOp_mono (fun a w => wpAny_more f _ a w) (h.2 i hi)⟩
theorem wpAny_more' {Q : Exit → Act → World → Prop} (m f : Nat) (listed : Array Bool) (a : Act) (w : World) (h : wpAny P md ops Q f listed a w) : wpAny P md ops Q (m + f) listed a w := by
  induction m with
  | zero => rwa [Nat.zero_add]
  | succ m ih => rw [show m + 1 + f = (m + f) + 1 by omega]; exact wpAny_more _ _ _ _ ih

/-- THE RULE. n: how many operations stand ahead of the tail that comes last in the order of the text; F: of each operation ahead of it what its value is good for, whatever the others have done; E: what a step may do to the world; G: what holds of every world on the way. -/
theorem wp_region_facts {id : Nat} {Q : Exit → Act → World → Prop} {a : Act} {w : World} {l : List Oper} (n : Nat)
    (F : Nat → Value → World → Prop) (G : Array Bool → World → Prop) (E : Nat → World → World → Prop)
    (hm : P.follows .mixedOrders = true) (hB : regionOk .any l.toArray n = true)
    (hG : G (Array.replicate l.toArray.size false) { w with drawn := w.drawn + 1 })
    (hGE : ∀ k listed w w', listed.getD k false = false → G listed w → E k w w' → G (listed.setIfInBounds k true) w')
    (hFE : ∀ j k v w w', j ≠ k → F j v w → E k w w' → F j v w')
    (hops : ∀ k o, k < n → l[k]? = some o → ∀ ν w' listed, listed.getD k false = false → G listed w' → (∀ j ∈ depsOf .any o, F j (ν j) w') → o.step P l.toArray (frameFor l.toArray ν a (depsOf .any o)) w' (fun v w'' => F k v w'' ∧ E k w' w'') Q)
    (hQ : ∀ ν w' listed, G listed w' → (∀ k, k < n → F k (ν k) w') → wpList P l.toArray Q (l.drop n) (frameFor l.toArray ν a (List.range n)) w') :
    (Code.region id l.toArray true).wp P Q a w := by
  simp only [regionOk, Bool.and_eq_true, decide_eq_true_eq] at hB
  obtain ⟨⟨⟨⟨⟨hsel, hap⟩, hdb⟩, hlo⟩, hns⟩, htail⟩ := hB
  refine wp_region_any hm ?_
  -- one step of a ready head operation
  have stepOne : ∀ (listed : Array Bool) (ν : Nat → Value) (w' : World), HeadInv .any l.toArray n listed → G listed w' → (∀ k, k < n → listed.getD k false = true → F k (ν k) w') →
      ∀ i, i < n → i ∈ Region.ready .any l.toArray listed → ∀ K : Act → World → Prop,
        (∀ ν' w'', G (listed.setIfInBounds i true) w'' → (∀ k, k < n → (listed.setIfInBounds i true).getD k false = true → F k (ν' k) w'') → K (frAt l.toArray n ν' a (listed.setIfInBounds i true)) w'') →
        wpOp P l.toArray Q i K (frAt l.toArray n ν a listed) w' := by
    intro listed ν w' inv hg hf i hin hr K hK
    obtain ⟨hun', o, ho, hall⟩ := mem_ready.1 hr
    have hun := getD_both hun'
    have hdeps : ∀ j ∈ depsOf .any o, listed.getD j false = true := fun j hj => by
      obtain ⟨e, he, hb, hon⟩ := mem_depsOf.1 hj
      rw [← hon]; exact hall e he hb
    have hag : ∀ t ∈ o.looksAt l.toArray, (frAt l.toArray n ν a listed).tmps[t]? = (frameFor l.toArray ν a (depsOf .any o)).tmps[t]? :=
      fun t ht => looks_agree hap hdb hlo ho hin hun hdeps inv.closed ν a ht
    have hst := hops i o hin (by simpa using ho) ν w' listed hun hg (fun j hj => hf j (Nat.lt_trans (depsBelow_spec hdb ho hj) hin) (hdeps j hj))
    have hse : ∀ cs b, o.op ≠ .select cs b := fun cs b => Region.noSelect_spec hsel i o cs b ho
    unfold Oper.step at hst
    rw [← wanted_agree o hag] at hst
    have next : ∀ v w'', F i v w'' ∧ E i w' w'' → K ((frAt l.toArray n ν a listed).put o.dst v) w'' := by
      intro v w'' ⟨h1, h2⟩
      rw [frAt_put hap hin ho inv.size hun]
      refine hK _ _ (hGE _ _ _ _ hun hg h2) fun k hk hl => ?_
      by_cases hki : k = i
      · subst hki; simpa using h1
      · simp only [if_neg hki]
        rw [getD_set_ne false (Ne.symm hki)] at hl
        exact hFE k i _ _ _ hki (hf k hk hl) h2
    unfold wpOp
    simp only [ho]
    split
    · rename_i hw
      rw [if_pos hw] at hst
      rcases hst with hst | ⟨hasks, hlet⟩
      · refine .inl (Oper.wp_of_gives (R := fun v w'' => F i v w'' ∧ E i w' w'') ?_ next)
        unfold Oper.gives at hst ⊢
        rw [execOp_agree o hse hag]
        exact hst
      · refine .inr ⟨?_, hlet⟩
        unfold Oper.asks at hasks ⊢
        rw [execOp_agree o hse hag]
        exact hasks
    · rename_i hw
      rw [if_neg hw] at hst
      exact next _ _ hst
  -- all heads have run
  have done : ∀ (listed : Array Bool) (ν : Nat → Value) (w' : World), HeadInv .any l.toArray n listed → G listed w' → (∀ k, k < n → listed.getD k false = true) → (∀ k, k < n → F k (ν k) w') →
      wpAny P .any l.toArray Q (l.toArray.size - n) listed (frAt l.toArray n ν a listed) w' := by
    intro listed ν w' inv hg hall hf
    have hfr : frAt l.toArray n ν a listed = frameFor l.toArray ν a (List.range n) := by
      have hd := frameFor_defers (ops := l.toArray) ν (List.range n) a
      have hz : ∀ t : Nat, (frAt l.toArray n ν a listed).tmps[t]? = (frameFor l.toArray ν a (List.range n)).tmps[t]? := by
        intro t
        by_cases hex : ∃ j, j < n ∧ dstOf l.toArray j = some t
        · obtain ⟨j, hj, hdj⟩ := hex
          rw [frAt_get hap hj hdj, frameFor_get ν _ _ (List.mem_range.2 hj) hdj (fun i hi hdi => dstsApart_spec hap (List.mem_range.1 hi) hj hdi hdj), hall j hj]
          simp
        · rw [frAt_get_none (fun j hj hdj => absurd ⟨j, hj, hdj⟩ hex), frameFor_get_none ν _ _ (fun j hj hdj => hex ⟨j, List.mem_range.1 hj, hdj⟩)]
      generalize frameFor l.toArray ν a (List.range n) = b at *
      cases b with
      | mk tm df =>
        simp only at hd
        subst hd
        have : (frAt l.toArray n ν a listed).tmps = tm := Array.ext_getElem? hz
        rw [← this]; rfl
    have hrest := hQ ν w' listed hg hf
    rw [← hfr] at hrest
    rcases Bool.or_eq_true _ _ ▸ htail with ht | ht
    · have ht : n = l.toArray.size := of_decide_eq_true ht
      have : l.drop n = [] := List.drop_eq_nil_of_le (by simp at ht; omega)
      rw [this] at hrest
      rw [show l.toArray.size - n = 0 by omega]
      refine ⟨?_, hrest⟩
      cases hr : Region.ready .any l.toArray listed with
      | nil => rfl
      | cons x xs =>
        exfalso
        have hx : x ∈ Region.ready .any l.toArray listed := by rw [hr]; exact List.mem_cons_self
        obtain ⟨hun, o, ho, _⟩ := mem_ready.1 hx
        have hxn : x < n := by have := (Array.getElem?_eq_some_iff.1 ho).1; omega
        have := hall x hxn
        rw [getD_both hun] at this
        cases this
    · simp only [Bool.and_eq_true, decide_eq_true_eq] at ht
      obtain ⟨⟨⟨hn, hs⟩, hc⟩, hseq⟩ := ht
      have hlist : listed = ((List.range l.toArray.size).map (decide <| · < n)).toArray := by
        refine Array.ext (by simp [inv.size]) fun t h1 h2 => ?_
        simp only [List.getElem_toArray, List.getElem_map, List.getElem_range]
        by_cases htn : t < n
        · have := hall t htn
          simp [h1] at this
          simp [this, htn]
        · have := inv.tail t (by omega) (by rw [← inv.size]; exact h1)
          simp [h1] at this
          simp [this, htn]
      have := wpAny_of_seq (md := .any) (Q' := Q) (P := P) (ops := l.toArray) (l.drop n) n listed _ w' (fun j => by simp [List.getElem?_drop]) (by
        rw [List.length_drop, show l.length = l.toArray.size by simp, hlist]; simpa using hseq) hrest
      rwa [List.length_drop, show l.length = l.toArray.size by simp] at this
  have noTail : ∀ (listed : Array Bool), HeadInv .any l.toArray n listed → (∃ i, i < n ∧ listed.getD i false = false) → ∀ t, t ∈ Region.ready .any l.toArray listed → t < n := by
    intro listed inv ⟨i, hi, hun⟩ t ht
    rcases Nat.lt_or_ge t n with h | h
    · exact h
    exfalso
    have hts : t < l.toArray.size := by obtain ⟨_, o, ho, _⟩ := mem_ready.1 ht; exact (Array.getElem?_eq_some_iff.1 ho).1
    rcases Bool.or_eq_true _ _ ▸ htail with h' | h'
    · have h' : n = l.toArray.size := of_decide_eq_true h'; omega
    · simp only [Bool.and_eq_true, decide_eq_true_eq] at h'
      obtain ⟨⟨⟨hn, hs⟩, hc⟩, _⟩ := h'
      exact tail_waits hs hc hn inv _ i rfl hi (getD_in (by rw [inv.size]; omega) hun) t h ht
  have main : ∀ (m : Nat) (listed : Array Bool) (ν : Nat → Value) (w' : World), (List.range n).countP (fun i => !listed.getD i false) ≤ m → HeadInv .any l.toArray n listed → G listed w' →
      (∀ k, k < n → listed.getD k false = true → F k (ν k) w') → wpAny P .any l.toArray Q (m + (l.toArray.size - n)) listed (frAt l.toArray n ν a listed) w' := by
    intro m
    induction m with
    | zero =>
      intro listed ν w' hc inv hg hf
      have hall : ∀ k, k < n → listed.getD k false = true := by
        intro k hk
        have h0 : (List.range n).countP (fun i => !listed.getD i false) = 0 := by omega
        have := List.countP_eq_zero.1 h0 k (List.mem_range.2 hk)
        simpa using this
      rw [Nat.zero_add]
      exact done listed ν w' inv hg hall (fun k hk => hf k hk (hall k hk))
    | succ m ih =>
      intro listed ν w' hc inv hg hf
      by_cases hex : ∃ i, i < n ∧ listed.getD i false = false
      · -- the least of them is ready
        have hne : Region.ready .any l.toArray listed ≠ [] := by
          have : ∃ i, i < n ∧ listed.getD i false = false ∧ ∀ j, j < i → listed.getD j false = true := by
            obtain ⟨i, hi, hu⟩ := hex
            induction i using Nat.strongRecOn with
            | _ i ihi =>
              by_cases h : ∃ j, j < i ∧ listed.getD j false = false
              · obtain ⟨j, hj, hju⟩ := h
                exact ihi j hj (by omega) hju
              · refine ⟨i, hi, hu, fun j hj => ?_⟩
                cases hl : listed.getD j false with
                | true => rfl
                | false => exact absurd ⟨j, hj, hl⟩ h
          obtain ⟨i, hi, hu, hmin⟩ := this
          have his : i < l.toArray.size := by omega
          have : i ∈ Region.ready .any l.toArray listed := by
            refine mem_ready.2 ⟨getD_in (by rw [inv.size]; exact his) hu, l.toArray[i], by simp, fun e he hb => ?_⟩
            exact hmin _ (depsBelow_spec (md := .any) hdb (k := i) (o := l.toArray[i]) (by simp) (mem_depsOf.2 ⟨e, he, hb, rfl⟩))
          intro h0; rw [h0] at this; cases this
        rw [show m + 1 + (l.toArray.size - n) = (m + (l.toArray.size - n)) + 1 by omega]
        refine ⟨fun h0 => absurd h0 hne, fun i hi => ?_⟩
        have hin := noTail listed inv hex i hi
        refine stepOne listed ν w' inv hg hf i hin hi _ fun ν' w'' hg' hf' => ?_
        refine ih _ ν' w'' ?_ (inv.set hi hin) hg' hf'
        have hun := getD_both (mem_ready.1 hi).1
        have hlt : (List.range n).countP (fun j => !(listed.setIfInBounds i true).getD j false) < (List.range n).countP (fun j => !listed.getD j false) := by
          refine countP_lt (fun x _ hx => ?_) ⟨i, List.mem_range.2 hin, ?_, ?_⟩
          · cases hl : listed.getD x false with
            | false => rfl
            | true => rw [getD_set_true hl] at hx; cases hx
          · simp only [hun]; rfl
          · have his : i < listed.size := by rw [inv.size]; omega
            simp [his]
        omega
      · have hall : ∀ k, k < n → listed.getD k false = true := fun k hk => by
          cases hl : listed.getD k false with
          | true => rfl
          | false => exact absurd ⟨k, hk, hl⟩ hex
        exact wpAny_more' (m + 1) _ _ _ _ (done listed ν w' inv hg hall (fun k hk => hf k hk (hall k hk)))
  have inv0 : HeadInv .any l.toArray n (Array.replicate l.toArray.size false) :=
    ⟨by simp, fun j oj _ hl => (by rw [getD_replicate_false] at hl; cases hl), fun t _ ht => getD_in (by simpa using ht) (getD_replicate_false _ _)⟩
  have hfr0 : frAt l.toArray n (fun _ => undef) a (Array.replicate l.toArray.size false) = a := by
    cases a with
    | mk tm df =>
      simp only [frAt]
      congr 1
      refine Array.ext (by simp) fun t h1 h2 => ?_
      simp only [Array.getElem_mapIdx, getD_replicate_false]
      split <;> rfl
  have hstart := main n (Array.replicate l.toArray.size false) (fun _ => undef) { w with drawn := w.drawn + 1 } (by
    have := List.countP_le_length (p := fun i => !(Array.replicate l.toArray.size false).getD i false) (l := List.range n)
    simpa using this) inv0 hG (fun k _ hl => by rw [getD_replicate_false] at hl; cases hl)
  rw [hfr0, show n + (l.toArray.size - n) = l.toArray.size by omega] at hstart
  exact hstart
end
end Go
