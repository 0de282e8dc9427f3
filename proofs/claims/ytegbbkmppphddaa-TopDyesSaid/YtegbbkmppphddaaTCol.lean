/- The program's Check, Seen of colours, where nothing is wrong. -/
import Derived.Test.YtegbbkmppphddaaTMake
import Derived.Test.YtegbbkmppphddaaSolveN
set_option linter.unusedVariables false
set_option linter.unusedSimpArgs false
namespace Go.Proofs.Ytegbbkmppphddaa
open Go.RowKit

def ColR (l : List Int) : Prop := ∀ x ∈ l, 0 ≤ x ∧ x < 16
set_option maxHeartbeats 400000 in
theorem bad1_col {w : World} {x : Int} (h : 0 ≤ x ∧ x < 16) : Calls Try.prog 45 #[.int .i64 x] w fun e w'' => e = .returned (.bool false) ∧ w = w'' := by
  have h1 : decide (x < 0) = false := by simp; omega
  have h2 : decide (16 ≤ x) = false := by simp; omega
  go_enter Try.func45, Try.ntmps45
  go_wp2
  go_ret
  exact ⟨rfl, rfl⟩
set_option maxHeartbeats 1000000 in
theorem index_col {w : World} {lA : Option Addr} {lc : Nat} {l : List Int} (hl : IntsRd w lA lc l) (hc : ColR l) :
    Calls Try.prog 51 #[.slice lA l.length lc, .func (.func 45) #[] #[]] w fun e w'' => e = .returned (.int .i64 (-1)) ∧ w = w'' := by
  have hll := hl.len
  have hlm := hl.cap
  unfold maxLen at hlm
  have HC := Lib.hid hc
  clear hc
  have eg := enters_of (P := Try.prog) Try.func45 (by kernel_rfl) rfl
  go_enter Try.func51, Try.ntmps51
  go_wp2
  go_loop [8] (fun i => ∃ k : Nat, k ≤ l.length ∧ i = .int .i64 k) (fun i => l.length - (intOf i).toNat)
  case atStart => exact ⟨0, by omega, rfl⟩
  case round =>
    obtain ⟨k, hk, rfl⟩ := hrel
    by_cases hlt : k < l.length
    · obtain ⟨b, off, rfl, hb, h0⟩ := hl.rows.int hlt
      have hcx := HC.out _ (List.getElem_mem hlt)
      go_wp2_with fail
      refine (bad1_col hcx).mono ?_
      rintro e w2 ⟨rfl, rfl⟩
      go_wp2
      go_round
      case rel => exact ⟨k + 1, by omega, by go_num⟩
      case measure => simp [intOf]; omega
    · obtain rfl : k = l.length := by omega
      go_wp2
      go_ret
      exact ⟨rfl, rfl⟩
set_option maxHeartbeats 400000 in
theorem contains_col {w : World} {lA : Option Addr} {lc : Nat} {l : List Int} (hl : IntsRd w lA lc l) (hc : ColR l) :
    Calls Try.prog 44 #[.slice lA l.length lc, .func (.func 45) #[] #[]] w fun e w'' => e = .returned (.bool false) ∧ w = w'' := by
  go_enter Try.func44, Try.ntmps44
  go_wp2_with fail
  refine (index_col hl hc).mono ?_
  rintro e w2 ⟨rfl, rfl⟩
  go_wp2
  go_ret
  exact ⟨rfl, rfl⟩
set_option maxHeartbeats 400000 in
theorem bad_col {w : World} {lA : Option Addr} {lc : Nat} {l : List Int} (hl : IntsRd w lA lc l) (hc : ColR l) {n : Int} (hn : (l.length : Int) = n) :
    Calls Try.prog 29 #[.slice lA l.length lc, .int .i64 n] w fun e w'' => e = .returned (.bool false) ∧ w = w'' := by
  have h1 : ((l.length : Int) != n) = false := by simp [hn]
  clear hn
  go_enter Try.func29, Try.ntmps29
  go_wp2_with fail
  refine (contains_col hl hc).mono ?_
  rintro e w2 ⟨rfl, rfl⟩
  go_wp2
  go_ret
  exact ⟨rfl, rfl⟩
set_option maxHeartbeats 1000000 in
theorem colcheck {w : World} {cA : Option Addr} {cc : Nat} {pA : Option Addr} {pc : Nat} {c : Cloth} (h : ClothRd w cA cc pA pc c) (h0 : clothB c = 0) {lA : Option Addr} {lc : Nat} {l : List Int} (hl : IntsRd w lA lc l) (hc : ColR l) (hn : (l.length : Int) = c.threads) :
    Calls Try.prog 43 #[clothVal cA cc pA pc c, .slice lA l.length lc] w fun e w' => e = .returned (.int .i64 0) ∧ Below w.heap.size w w' := by
  have hbx := below_box (w := w) (.cells #[.int .i64 c.threads, .slice cA c.crosses.length cc, .slice pA c.pins.length pc] 36)
  have h1 := h.below hbx
  have hl1 := hl.below hbx
  have H0 := Lib.hid h0
  have HN := Lib.hid hn
  clear h0 hn
  go_enter Try.func43, Try.ntmps43
  go_wp2_with fail
  refine (check_any h1).mono ?_
  rintro e w1 ⟨rfl, hb1⟩
  rw [H0.out]
  have hl2 := hl1.below hb1
  have x0 := (hb1.cell (p := ⟨w.heap.size, 0, none⟩) (by simp)).trans (by simp : _ = some (.int .i64 c.threads))
  have hB := hbx.trans (hb1.mono hbx.size)
  clear hb1
  go_wp2_with fail
  refine (bad_col hl2 hc HN.out).mono ?_
  rintro e w2 ⟨rfl, rfl⟩
  go_wp2
  go_ret
  exact ⟨rfl, hB⟩

/-- A list in the making, in a variable of its own in block OB. -/
structure SeenAt (W0 w : World) (OB : Nat) (L : List Int) (A : Option Addr) (c : Nat) : Prop where
  cell : w.cell? ⟨OB, 0, none⟩ = some (.slice A L.length c)
  fr : w.frozen? ⟨OB, 0, none⟩ = false
  own : w.ownsRow W0.heap.size 3 1 (.slice A L.length c) L.length (ints L)
  keep : ∀ b, b < W0.heap.size → b ≠ OB → w.heap[b]? = W0.heap[b]?
  size : W0.heap.size ≤ w.heap.size
  os : w.os = W0.os
  tape : w.tape = W0.tape
  output : w.output = W0.output
theorem SeenAt.grow {W0 w w1 : World} {OB : Nat} {L : List Int} {A : Option Addr} {c : Nat} (h : SeenAt W0 w OB L A c) (hO : OB < W0.heap.size) (hb : Below w.heap.size w w1) : SeenAt W0 w1 OB L A c := by
  have hs := h.size
  have e := hb.block OB (by omega)
  exact ⟨(World.cell?_of_block (a := ⟨OB, 0, none⟩) e).trans h.cell, (World.frozen?_of_block (a := ⟨OB, 0, none⟩) e).trans h.fr, owns_keep h.own fun k hk => hb.block k (h.own.lt k hk).2, fun b h1 h2 => (hb.block b (by omega)).trans (h.keep b h1 h2), Nat.le_trans hs hb.size, hb.os.trans h.os, hb.tape.trans h.tape, hb.output.trans h.output⟩
theorem SeenAt.put {W0 w w1 w2 : World} {OB : Nat} {L L' : List Int} {A A' : Option Addr} {c c' : Nat} (h0 : SeenAt W0 w OB L A c) (hO : OB < W0.heap.size) (hb : Below w.heap.size w w1) (hown : w2.ownsRow W0.heap.size 3 1 (.slice A' L'.length c') L'.length (ints L')) (hg : w1.grownBy w2 (Value.slice A L.length c).ownBlock) :
    SeenAt W0 (w2.setCell ⟨OB, 0, none⟩ (.slice A' L'.length c')) OB L' A' c' := by
  have h := h0.grow hO hb
  have hs := h.size
  have hgs := hg.size
  have hlow : ∀ k, k < W0.heap.size → w2.heap[k]? = w1.heap[k]? := fun k hk => hg.block k (by omega) fun e => by have := (h.own.lt k e.symm).1; omega
  have hk3 : ∀ k, k ≠ OB → (w2.setCell ⟨OB, 0, none⟩ (.slice A' L'.length c')).heap[k]? = w2.heap[k]? := fun k hk => Below.heap_setCell _ _ _ _ (by simpa using hk)
  have hc1 : w2.cell? ⟨OB, 0, none⟩ = some (.slice A L.length c) := (World.cell?_of_block (a := ⟨OB, 0, none⟩) (hlow OB hO)).trans h.cell
  refine ⟨World.cell?_setCell_same' _ _ _ (by rw [hc1]; rfl), ?_, owns_keep hown fun k hk => hk3 k ?_, fun b h1 h2 => (hk3 b h2).trans ((hlow b h1).trans (h.keep b h1 h2)), by simp only [World.size_setCell]; omega, hg.os.trans h.os, hg.tape.trans h.tape, hg.output.trans h.output⟩
  · have := (World.frozen?_of_block (a := ⟨OB, 0, none⟩) (hlow OB hO)).trans h.fr
    simpa using this
  · have := (hown.lt k hk).1; omega
def SeenPost (W0 : World) (OB : Nat) (L : List Int) (e : Ending) (w' : World) : Prop := e = .returned (.tuple #[]) ∧ ∃ A c, SeenAt W0 w' OB L A c
set_option maxHeartbeats 1000000 in
theorem seen1_any {W0 w : World} {OB : Nat} {L : List Int} {A : Option Addr} {c : Nat} (h : SeenAt W0 w OB L A c) (hO : OB < W0.heap.size) (hL : L.length ≤ 100000) (hw : ∀ x ∈ L, I64 x) (i : Value) {x : Int} (hx : I64 x) (u : Value) :
    Calls Try.prog 28 (#[i, .int .i64 x, u] ++ #[.pointer (some ⟨OB, 0, none⟩)]) w (SeenPost W0 OB (L ++ [x])) := by
  obtain ⟨i0, hi0, hz0, hz1, hz2⟩ := info_parts info_int
  have c0 := h.cell
  have f0 := h.fr
  have hs := h.size
  have H := Lib.hid h
  have hOw : OB < w.heap.size := by omega
  clear h
  go_enter Try.func28, Try.ntmps28
  go_wp2_with (refine wpList_append_ints rfl (.tmp 7) (.tmp 9) 47 3 i0 rfl Try.underlying47 hi0 hz0 hz1 hz2 W0.heap.size (.slice A L.length c) L rfl (H.out.own.alloc _) (some ⟨w.heap.size, 0, none⟩) 1 [x] rfl (one_int x hx (by simp) (by simp)) hw (by simp; omega) (by simp; omega) ?hcont)
  case hcont =>
  intro A3 c3 w3 hown3 hg3 hge3 hat3 hI3
  have hlow : w3.heap[OB]? = w.heap[OB]? := (hg3.block _ (by simp; omega) fun e => by have := (H.out.own.lt _ e.symm).1; omega).trans (Below.heap_alloc w _ _ hOw)
  have c3' := (World.cell?_of_block (a := ⟨OB, 0, none⟩) hlow).trans c0
  have f3' := (World.frozen?_of_block (a := ⟨OB, 0, none⟩) hlow).trans f0
  have hln : (L ++ [x]).length = L.length + 1 := by simp
  rw [← hln] at hown3
  have hp := H.out.put hO (below_box _) hown3 hg3
  rw [hln] at hp
  have HP := Lib.hid hp
  clear hp hln
  clear hown3 hg3 hge3 hat3 hI3 hlow
  go_wp2_with fail
  go_end0
  exact ⟨rfl, _, _, HP.out⟩
def seenL (c : Cloth) (l : List Int) : List Int := c.crosses.map fun x => l.getD x.over.toNat 0
def AskPost (w : World) (OB : Nat) (L : List Int) (e : Ending) (w' : World) : Prop :=
  e = .returned (.int .i64 0) ∧ ∃ B A c, OB < B ∧ w'.cell? ⟨OB, 0, none⟩ = some (.slice A L.length c) ∧ w'.frozen? ⟨OB, 0, none⟩ = false ∧ w'.ownsRow B 3 1 (.slice A L.length c) L.length (ints L) ∧ (∀ b, b < w.heap.size → b ≠ OB → w'.heap[b]? = w.heap[b]?) ∧ w.heap.size ≤ w'.heap.size ∧ w'.os = w.os ∧ w'.tape = w.tape ∧ w'.output = w.output
theorem seenL_wf (c : Cloth) {l : List Int} (h : ∀ x ∈ l, I64 x) : ∀ x ∈ seenL c l, I64 x := by
  intro x hx
  unfold seenL at hx
  obtain ⟨y, -, rfl⟩ := List.mem_map.1 hx
  by_cases hk : y.over.toNat < l.length
  · rw [List.getD_eq_getElem?_getD, List.getElem?_eq_getElem hk]
    exact h _ (List.getElem_mem hk)
  · rw [List.getD_eq_getElem?_getD, List.getElem?_eq_none (by omega)]
    show I64 0
    unfold I64; omega
theorem clothB_over {c : Cloth} (h0 : clothB c = 0) : c.threads ≤ 48 ∧ c.crosses.length ≤ 20000 ∧ ∀ x ∈ c.crosses, 0 ≤ x.over ∧ x.over < c.threads ∧ 0 ≤ x.under ∧ x.under < c.threads := by
  obtain ⟨h1, h2, h3⟩ := clothB_ok h0
  have h4 := numbers_two h2
  refine ⟨h1, ?_, fun x hx => ?_⟩
  · unfold clothB at h0
    split at h0
    · omega
    · omega
  · have h5 := ends_over (p := fun v => 0 ≤ v ∧ v < c.threads) c.crosses (iota c.threads.toNat) ?_ ?_ h3 x hx
    · exact ⟨h5.1.1, h5.1.2, h5.2.1, h5.2.2⟩
    · intro y hy
      simp only [iota, List.mem_map, List.mem_range] at hy
      obtain ⟨i, hi, rfl⟩ := hy
      omega
    · intro y hy
      have := numbers_all h2 y hy
      rw [iota_length]
      omega

set_option maxRecDepth 100000 in
set_option maxHeartbeats 2000000 in
theorem asked_seen {w : World} {cA : Option Addr} {cc : Nat} {pA : Option Addr} {pc : Nat} {c : Cloth} (h : ClothRd w cA cc pA pc c) (h0 : clothB c = 0) {lA : Option Addr} {lc : Nat} {l : List Int} (hl : IntsRd w lA lc l) (hc : ColR l) (hn : (l.length : Int) = c.threads)
    {OB : Nat} (hO : OB < w.heap.size) (o0 : w.cell? ⟨OB, 0, none⟩ = some (.slice none 0 0)) (of0 : w.frozen? ⟨OB, 0, none⟩ = false) (hOc : 0 < c.crosses.length → ∀ a, cA = some a → a.block ≠ OB) (hOl : 0 < l.length → ∀ a, lA = some a → a.block ≠ OB) :
    Calls Try.prog 27 #[clothVal cA cc pA pc c, .slice lA l.length lc, .func (.func 28) #[] #[.pointer (some ⟨OB, 0, none⟩)]] w (AskPost w OB (seenL c l)) := by
  have hbx := below_box (w := w) (.cells #[.int .i64 c.threads, .slice cA c.crosses.length cc, .slice pA c.pins.length pc] 36)
  have h1 := h.below hbx
  have hl1 := hl.below hbx
  obtain ⟨hth, hcl, hov⟩ := clothB_over h0
  have H0 := Lib.hid h0
  have HN := Lib.hid hn
  have HOV := Lib.hid hov
  clear h0 hn hov
  have eg := enters_of (P := Try.prog) Try.func28 (by kernel_rfl) rfl
  go_enter Try.func27, Try.ntmps27
  go_wp2_with fail
  refine (colcheck h1 H0.out hl1 hc HN.out).mono ?_
  rintro e w1 ⟨rfl, hb1⟩
  have hB := hbx.trans (hb1.mono hbx.size)
  have h2 := h1.below hb1
  have hl2 := hl1.below hb1
  have x1 := (hb1.cell (p := ⟨w.heap.size, 1, none⟩) (by simp)).trans (by simp : _ = some (.slice cA c.crosses.length cc))
  have X1 := Lib.hid x1
  have hx1 : w.heap.size < w1.heap.size := by have := hb1.size; simp at this; omega
  have HS : Hid (SeenAt w1 w1 OB [] none 0) := ⟨(hB.cell (p := ⟨OB, 0, none⟩) hO).trans o0, (hB.frozen (p := ⟨OB, 0, none⟩) hO).trans of0, World.ownsRow_nil _ _ _ _, fun _ _ _ => rfl, Nat.le_refl _, rfl, rfl, rfl⟩
  have hO1 : OB < w1.heap.size := by omega
  clear hb1 h1 hl1 hbx o0 of0
  go_wp2_with fail
  clear x1
  obtain ⟨wo, hwo⟩ : ∃ wo : World, wo = w1 := ⟨_, rfl⟩
  go_loopw [19] (fun i wr => ∃ (m : Nat) (A : Option Addr) (c' : Nat), m ≤ c.crosses.length ∧ i = .int .i64 m ∧ SeenAt w1 wr OB ((seenL c l).take m) A c') (fun i _ => c.crosses.length - (intOf i).toNat)
  case atStart => exact ⟨0, none, 0, by omega, rfl, HS.out⟩
  case round =>
    clear HS hwo
    obtain ⟨m, A, c', hm, rfl, hS⟩ := hrel
    have hkp := hS.keep w.heap.size (by omega) (by omega)
    have x1 := (World.cell?_of_block (a := ⟨w.heap.size, 1, none⟩) hkp).trans X1.out
    by_cases hml : m < c.crosses.length
    · obtain ⟨b, off, hcA, hb, k0, k1, k2, k3⟩ := h2.crosses.cross hml
      subst hcA
      have hbk := hS.keep b hb (hOc (by omega) _ rfl)
      have k0 := (World.cell?_of_block (a := ⟨b, off + m * 4, none⟩) hbk).trans k0
      have k1 := (World.cell?_of_block (a := ⟨b, off + m * 4 + 1, none⟩) hbk).trans k1
      have k2 := (World.cell?_of_block (a := ⟨b, off + m * 4 + 2, none⟩) hbk).trans k2
      have k3 := (World.cell?_of_block (a := ⟨b, off + m * 4 + 3, none⟩) hbk).trans k3
      obtain ⟨ho0, ho1, hu0, hu1⟩ := HOV.out _ (List.getElem_mem hml)
      have hsl : Hid ((seenL c l).take (m + 1) = (seenL c l).take m ++ [l.getD c.crosses[m].over.toNat 0]) := by
        unfold seenL
        rw [← List.map_take, ← List.map_take, List.take_succ_eq_append_getElem hml, List.map_append]
        rfl
      obtain ⟨ov, hov⟩ := Int.eq_ofNat_of_zero_le ho0
      obtain ⟨un, hun⟩ := Int.eq_ofNat_of_zero_le hu0
      generalize c.crosses[m].over = ox at *
      generalize c.crosses[m].under = ux at *
      subst hov hun
      have hlen := HN.out
      have hovl : ov < l.length := by omega
      have hunl : un < l.length := by omega
      clear hlen
      obtain ⟨lb, lo, hlA, hlb, hlo⟩ := hl2.rows.int hovl
      subst hlA
      obtain ⟨lb2, lo2, e2, -, hlu⟩ := hl2.rows.int hunl
      cases e2
      have hlk := hS.keep lb hlb (hOl (by omega) _ rfl)
      have hlo := (World.cell?_of_block (a := ⟨lb, lo + ov, none⟩) hlk).trans hlo
      have hlu := (World.cell?_of_block (a := ⟨lb, lo + un, none⟩) hlk).trans hlu
      have hgv : l.getD ov 0 = l[ov] := by simp [hovl]
      have HGV := Lib.hid hgv
      have hxi : I64 l[ov] := hl2.wf _ (List.getElem_mem hovl)
      have hmi : (m : Int) < (c.crosses.length : Int) := by omega
      have hoi : (ov : Int) < (l.length : Int) := by omega
      have hui : (un : Int) < (l.length : Int) := by omega
      have HSS := Lib.hid hS
      have hsz := hS.size
      clear hS hkp hbk hlk hgv
      generalize l[ov] = xo at *
      generalize l[un] = xu at *
      generalize c.crosses[m].work = wk at *
      generalize c.crosses[m].at_ = at' at *
      have HNX : Hid ((seenL c l).take (m + 1) = (seenL c l).take m ++ [xo]) := by
        rw [hsl.out, Int.toNat_natCast, HGV.out]
        exact Lib.hid rfl
      have hLw := seenL_wf c hl2.wf
      have hLw2 := Lib.hid (fun x (hx : x ∈ (seenL c l).take m) => hLw x (List.mem_of_mem_take hx))
      have hLl : ((seenL c l).take m).length ≤ 100000 := by simp [seenL]; omega
      clear hLw hsl
      generalize hT : (seenL c l).take m = T at *
      clear hT
      have hbx4 := below_box (w := wr) (.cells #[.int .i64 wk, .int .i64 at', .int .i64 (ov : Nat), .int .i64 (un : Nat)] 66)
      have hS4 := Lib.hid (HSS.out.grow hO1 hbx4)
      have d2 : (wr.alloc (.cells #[.int .i64 wk, .int .i64 at', .int .i64 (ov : Nat), .int .i64 (un : Nat)] 66)).cell? ⟨wr.heap.size, 2, none⟩ = some (.int .i64 (ov : Nat)) := by simp
      have d3 : (wr.alloc (.cells #[.int .i64 wk, .int .i64 at', .int .i64 (ov : Nat), .int .i64 (un : Nat)] 66)).cell? ⟨wr.heap.size, 3, none⟩ = some (.int .i64 (un : Nat)) := by simp
      have hlbr : lb < wr.heap.size := by omega
      have e0 := (hbx4.cell (p := ⟨lb, lo + ov, none⟩) hlbr).trans hlo
      have e1 := (hbx4.cell (p := ⟨lb, lo + un, none⟩) hlbr).trans hlu
      have hz4 : wr.heap.size < (wr.alloc (.cells #[.int .i64 wk, .int .i64 at', .int .i64 (ov : Nat), .int .i64 (un : Nat)] 66)).heap.size := by simp
      have hlb4 : lb < (wr.alloc (.cells #[.int .i64 wk, .int .i64 at', .int .i64 (ov : Nat), .int .i64 (un : Nat)] 66)).heap.size := by omega
      have hov48 : (ov : Int) < 48 := by omega
      go_wp2_with fail
      clear hbx4 k0 k1 k2 k3 hlo hlu x1 HSS
      generalize (wr.alloc (.cells #[.int .i64 wk, .int .i64 at', .int .i64 (ov : Nat), .int .i64 (un : Nat)] 66)) = W4 at *
      refine wp_region_noPanic ?_
      refine wp_region_L (S := (fun w' => Below W4.heap.size W4 w' ∧ (∀ b o, b < W4.heap.size → w'.cell? ⟨b, o, none⟩ = W4.cell? ⟨b, o, none⟩))) (L := 12) (by kernel_rfl) ?_
      refine wpAnyL_take 20 (i := 0) (oi := { dst := some 27, op := Op.move (Operand.tmp 2), type := 76, pos := "colours.go:37", after := #[], guard := none }) (v := ?_) rfl (by kernel_rfl) (by kernel_rfl) (by kernel_rfl) (by kernel_rfl) (by kernel_rfl) (fun _ _ _ h => h) (.inl ⟨by rfl, ?_⟩) (held_drew W4) ?_
      rotate_left
      · intro w hSw; (try dsimp only at hSw); go_simp; try (with_reducible rfl)
      try simp only [Act.put, List.setIfInBounds_toArray, List.set_cons_zero, List.set_cons_succ]
      refine wpAnyL_take 20 (i := 1) (oi := { dst := some 28, op := Op.move (Operand.tmp 8), type := 3, pos := "colours.go:37", after := #[], guard := none }) (v := ?_) rfl (by kernel_rfl) (by kernel_rfl) (by kernel_rfl) (by kernel_rfl) (by kernel_rfl) (fun _ _ _ h => h) (.inl ⟨by rfl, ?_⟩) (held_drew W4) ?_
      rotate_left
      · intro w hSw; (try dsimp only at hSw); go_simp; try (with_reducible rfl)
      try simp only [Act.put, List.setIfInBounds_toArray, List.set_cons_zero, List.set_cons_succ]
      refine wpAnyL_take 20 (i := 2) (oi := { dst := some 29, op := Op.move (Operand.tmp 1), type := 47, pos := "colours.go:37", after := #[], guard := none }) (v := ?_) rfl (by kernel_rfl) (by kernel_rfl) (by kernel_rfl) (by kernel_rfl) (by kernel_rfl) (fun _ _ _ h => h) (.inl ⟨by rfl, ?_⟩) (held_drew W4) ?_
      rotate_left
      · intro w hSw; (try dsimp only at hSw); go_simp; try (with_reducible rfl)
      try simp only [Act.put, List.setIfInBounds_toArray, List.set_cons_zero, List.set_cons_succ]
      refine wpAnyL_take 20 (i := 3) (oi := { dst := some 30, op := Op.fieldAddr 66 (Operand.tmp 9) 2, type := 0, pos := "colours.go:37", after := #[], guard := none }) (v := ?_) rfl (by kernel_rfl) (by kernel_rfl) (by kernel_rfl) (by kernel_rfl) (by kernel_rfl) (fun _ _ _ h => h) (.inl ⟨by rfl, ?_⟩) (held_drew W4) ?_
      rotate_left
      · intro w hSw; (try dsimp only at hSw); go_simp; try (with_reducible rfl)
      try simp only [Act.put, List.setIfInBounds_toArray, List.set_cons_zero, List.set_cons_succ]
      refine wpAnyL_take 20 (i := 4) (oi := { dst := some 31, op := Op.load 3 (Operand.tmp 30), type := 3, pos := "colours.go:37", after := #[{ on := 3, ground := Ground.data }], guard := none }) (v := ?_) rfl (by kernel_rfl) (by kernel_rfl) (by kernel_rfl) (by kernel_rfl) (by kernel_rfl) (fun _ _ _ h => h) (.inl ⟨by rfl, ?_⟩) (held_drew W4) ?_
      rotate_left
      · intro w hSw; (try dsimp only at hSw); go_simp; try (with_reducible rfl)
      try simp only [Act.put, List.setIfInBounds_toArray, List.set_cons_zero, List.set_cons_succ]
      refine wpAnyL_take 20 (i := 5) (oi := { dst := some 32, op := Op.indexAddr 47 (Operand.tmp 29) (Operand.tmp 31), type := 0, pos := "colours.go:37", after := #[{ on := 2, ground := Ground.data }, { on := 4, ground := Ground.data }], guard := none }) (v := ?_) rfl (by kernel_rfl) (by kernel_rfl) (by kernel_rfl) (by kernel_rfl) (by kernel_rfl) (fun _ _ _ h => h) (.inl ⟨by rfl, ?_⟩) (held_drew W4) ?_
      rotate_left
      · intro w hSw; (try dsimp only at hSw); go_simp; try (with_reducible rfl)
      try simp only [Act.put, List.setIfInBounds_toArray, List.set_cons_zero, List.set_cons_succ]
      refine wpAnyL_take 20 (i := 6) (oi := { dst := some 33, op := Op.load 3 (Operand.tmp 32), type := 3, pos := "colours.go:37", after := #[{ on := 5, ground := Ground.data }], guard := none }) (v := ?_) rfl (by kernel_rfl) (by kernel_rfl) (by kernel_rfl) (by kernel_rfl) (by kernel_rfl) (fun _ _ _ h => h) (.inl ⟨by rfl, ?_⟩) (held_drew W4) ?_
      rotate_left
      · intro w hSw; (try dsimp only at hSw); go_simp; try (with_reducible rfl)
      try simp only [Act.put, List.setIfInBounds_toArray, List.set_cons_zero, List.set_cons_succ]
      refine wpAnyL_take 20 (i := 7) (oi := { dst := some 34, op := Op.move (Operand.tmp 1), type := 47, pos := "colours.go:37", after := #[], guard := none }) (v := ?_) rfl (by kernel_rfl) (by kernel_rfl) (by kernel_rfl) (by kernel_rfl) (by kernel_rfl) (fun _ _ _ h => h) (.inl ⟨by rfl, ?_⟩) (held_drew W4) ?_
      rotate_left
      · intro w hSw; (try dsimp only at hSw); go_simp; try (with_reducible rfl)
      try simp only [Act.put, List.setIfInBounds_toArray, List.set_cons_zero, List.set_cons_succ]
      refine wpAnyL_take 20 (i := 8) (oi := { dst := some 35, op := Op.fieldAddr 66 (Operand.tmp 9) 3, type := 0, pos := "colours.go:37", after := #[], guard := none }) (v := ?_) rfl (by kernel_rfl) (by kernel_rfl) (by kernel_rfl) (by kernel_rfl) (by kernel_rfl) (fun _ _ _ h => h) (.inl ⟨by rfl, ?_⟩) (held_drew W4) ?_
      rotate_left
      · intro w hSw; (try dsimp only at hSw); go_simp; try (with_reducible rfl)
      try simp only [Act.put, List.setIfInBounds_toArray, List.set_cons_zero, List.set_cons_succ]
      refine wpAnyL_take 20 (i := 9) (oi := { dst := some 36, op := Op.load 3 (Operand.tmp 35), type := 3, pos := "colours.go:37", after := #[{ on := 8, ground := Ground.data }], guard := none }) (v := ?_) rfl (by kernel_rfl) (by kernel_rfl) (by kernel_rfl) (by kernel_rfl) (by kernel_rfl) (fun _ _ _ h => h) (.inl ⟨by rfl, ?_⟩) (held_drew W4) ?_
      rotate_left
      · intro w hSw; (try dsimp only at hSw); go_simp; try (with_reducible rfl)
      try simp only [Act.put, List.setIfInBounds_toArray, List.set_cons_zero, List.set_cons_succ]
      refine wpAnyL_take 20 (i := 10) (oi := { dst := some 37, op := Op.indexAddr 47 (Operand.tmp 34) (Operand.tmp 36), type := 0, pos := "colours.go:37", after := #[{ on := 7, ground := Ground.data }, { on := 9, ground := Ground.data }], guard := none }) (v := ?_) rfl (by kernel_rfl) (by kernel_rfl) (by kernel_rfl) (by kernel_rfl) (by kernel_rfl) (fun _ _ _ h => h) (.inl ⟨by rfl, ?_⟩) (held_drew W4) ?_
      rotate_left
      · intro w hSw; (try dsimp only at hSw); go_simp; try (with_reducible rfl)
      try simp only [Act.put, List.setIfInBounds_toArray, List.set_cons_zero, List.set_cons_succ]
      refine wpAnyL_take 20 (i := 11) (oi := { dst := some 38, op := Op.load 3 (Operand.tmp 37), type := 3, pos := "colours.go:37", after := #[{ on := 10, ground := Ground.data }], guard := none }) (v := ?_) rfl (by kernel_rfl) (by kernel_rfl) (by kernel_rfl) (by kernel_rfl) (by kernel_rfl) (fun _ _ _ h => h) (.inl ⟨by rfl, ?_⟩) (held_drew W4) ?_
      rotate_left
      · intro w hSw; (try dsimp only at hSw); go_simp; try (with_reducible rfl)
      try simp only [Act.put, List.setIfInBounds_toArray, List.set_cons_zero, List.set_cons_succ]
      refine wpAnyL_one (i := 12) (o := { dst := some 39, op := Op.call { callee := Callee.value (Operand.tmp 27), args := #[Operand.tmp 28, Operand.tmp 33, Operand.tmp 38], argTypes := #[3, 3, 3] }, type := 0, pos := "colours.go:37", after := #[{ on := 0, ground := Ground.data }, { on := 1, ground := Ground.data }, { on := 6, ground := Ground.data }, { on := 11, ground := Ground.data }], guard := none }) (by kernel_rfl) rfl (by rfl) (fun K hK => ?_)
      go_simp
      refine (seen1_any (hS4.out.grow hO1 (Below.refl _ _).drew) hO1 hLl hLw2.out _ hxi _).mono ?_
      rintro e w5 ⟨rfl, A5, c5, hS5⟩
      refine hK _ _ (fun hne => absurd rfl hne) ?_
      clear hK K
      try simp only [Act.put, List.setIfInBounds_toArray, List.set_cons_zero, List.set_cons_succ]
      refine wpAnyL_done (by kernel_rfl) ?_ _
      refine NoPanic.normal ?_
      have HS5 : Hid (SeenAt w1 w5 OB ((seenL c l).take (m + 1)) A5 c5) := by rw [HNX.out]; exact hS5
      clear hS5
      go_wp2_with fail
      go_roundw
      case rel => exact ⟨m + 1, A5, c5, by omega, by go_num, HS5.out⟩
      case measure => simp [intOf]; omega
    · obtain rfl : m = c.crosses.length := by omega
      have hki : ¬ ((c.crosses.length : Int) < (c.crosses.length : Int)) := by omega
      have htk : (seenL c l).take c.crosses.length = seenL c l := List.take_of_length_le (by simp [seenL])
      rw [htk] at hS
      have HSS := Lib.hid hS
      clear hS htk hkp
      go_wp2
      go_ret
      exact ⟨rfl, _, _, _, hO1, HSS.out.cell, HSS.out.fr, HSS.out.own, fun b h1 h2 => (HSS.out.keep b (by have := hB.size; omega) h2).trans (hB.block b h1), Nat.le_trans hB.size HSS.out.size, HSS.out.os.trans hB.os, HSS.out.tape.trans hB.tape, HSS.out.output.trans hB.output⟩
def SeenPP (w : World) (c : Cloth) (l : List Int) (e : Ending) (w' : World) : Prop :=
  ∃ A cp, e = .returned (.tuple #[.slice A (seenL c l).length cp, .int .i64 0]) ∧ IntsRd w' A cp (seenL c l) ∧ Below w.heap.size w w'
theorem owns_ints {w : World} {B : Nat} {A : Option Addr} {c : Nat} {L : List Int} (h : w.ownsRow B 3 1 (.slice A L.length c) L.length (ints L)) (hw : ∀ x ∈ L, I64 x) : IntsRd w A c L := intsRd_owns h hw

set_option maxRecDepth 100000 in
set_option maxHeartbeats 2000000 in
theorem seen_any {w : World} {cA : Option Addr} {cc : Nat} {pA : Option Addr} {pc : Nat} {c : Cloth} (h : ClothRd w cA cc pA pc c) (h0 : clothB c = 0) {lA : Option Addr} {lc : Nat} {l : List Int} (hl : IntsRd w lA lc l) (hc : ColR l) (hn : (l.length : Int) = c.threads) :
    Calls Try.prog 9 #[clothVal cA cc pA pc c, .slice lA l.length lc] w (SeenPP w c l) := by
  have hbx := below_box2 w (.cells #[.int .i64 c.threads, .slice cA c.crosses.length cc, .slice pA c.pins.length pc] 36) (.cells #[.slice none 0 0] 47)
  have h1 := h.below hbx
  have hl1 := hl.below hbx
  have H0 := Lib.hid h0
  have HN := Lib.hid hn
  clear h0 hn
  have o0 : ((w.alloc (.cells #[.int .i64 c.threads, .slice cA c.crosses.length cc, .slice pA c.pins.length pc] 36)).alloc (.cells #[.slice none 0 0] 47)).cell? ⟨w.heap.size + 1, 0, none⟩ = some (.slice none 0 0) := by simp
  have of0 : ((w.alloc (.cells #[.int .i64 c.threads, .slice cA c.crosses.length cc, .slice pA c.pins.length pc] 36)).alloc (.cells #[.slice none 0 0] 47)).frozen? ⟨w.heap.size + 1, 0, none⟩ = false := by simp
  have hO : w.heap.size + 1 < ((w.alloc (.cells #[.int .i64 c.threads, .slice cA c.crosses.length cc, .slice pA c.pins.length pc] 36)).alloc (.cells #[.slice none 0 0] 47)).heap.size := by simp
  have hsl := seenL_wf c hl.wf
  go_enter Try.func9, Try.ntmps9
  go_wp2_with fail
  generalize ((w.alloc (.cells #[.int .i64 c.threads, .slice cA c.crosses.length cc, .slice pA c.pins.length pc] 36)).alloc (.cells #[.slice none 0 0] 47)) = W at *
  refine (asked_seen h1 H0.out hl1 hc HN.out hO o0 of0 (fun hp a e => by obtain ⟨b, off, e2, hb, -⟩ := h.crosses.cross hp; rw [e] at e2; cases e2; simp only [ne_eq]; omega) (fun hp a e => by obtain ⟨b, off, e2, hb, -⟩ := hl.rows.int hp; rw [e] at e2; cases e2; simp only [ne_eq]; omega)).mono ?_
  rintro e w2 ⟨rfl, B, A, cp, hOB, q0, qf, qo, qk, qs, q1, q2, q3⟩
  have HBE : Hid (Below w.heap.size w (w2.setCell ⟨w.heap.size + 1, 0, none⟩ (.slice A (seenL c l).length cp))) := by
    have hb2 : Below w.heap.size w w2 := hbx.trans ⟨q1, q2, q3, by have := hbx.size; omega, fun k hk => qk k (by have := hbx.size; omega) (by omega)⟩
    exact hb2.setCell (p := ⟨w.heap.size + 1, 0, none⟩) (by simp) _
  have HI : Hid (IntsRd (w2.setCell ⟨w.heap.size + 1, 0, none⟩ (.slice A (seenL c l).length cp)) A cp (seenL c l)) :=
    intsRd_owns (owns_keep (w' := w2.setCell ⟨w.heap.size + 1, 0, none⟩ (.slice A (seenL c l).length cp)) qo (fun k hk => Below.heap_setCell _ _ _ _ (by have := (qo.lt k hk).1; simp; omega))) hsl
  have E0 := Lib.hid (show (w2.setCell ⟨w.heap.size + 1, 0, none⟩ (.slice A (seenL c l).length cp)).cell? ⟨w.heap.size + 1, 0, none⟩ = some (.slice A (seenL c l).length cp) from World.cell?_setCell_same' _ _ _ (by rw [q0]; rfl))
  clear qo qk q1 q2 q3 hsl
  go_wp2_with fail
  generalize (w2.setCell ⟨w.heap.size + 1, 0, none⟩ (.slice A (seenL c l).length cp)) = W9 at *
  have e0 := E0.out
  exact bodyPost_ret (v := .tuple #[.slice A (seenL c l).length cp, .int .i64 0]) (by simp [results, Try.results9, go_sem, e0]) rfl ⟨A, cp, rfl, HI.out, HBE.out⟩
end Go.Proofs.Ytegbbkmppphddaa
