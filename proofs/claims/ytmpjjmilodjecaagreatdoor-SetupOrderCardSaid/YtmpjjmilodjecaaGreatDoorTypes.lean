/- The program's plain structs as Lean structures; their cells as one array that the walk doesn't open; what the walk is told of it. Printed by wip/gen_types.py (our own). -/
import Derived.Test.YtmpjjmilodjecaaGreatDoorBase
import Derived.Laws.StructEq
namespace Go.Proofs.YtmpjjmilodjecaaGreatDoor
open Go.RowKit
set_option linter.unusedVariables false
set_option linter.unusedSimpArgs false

theorem ext_lit (l : List Value) (i j : Nat) : l.toArray.extract i j = ((l.drop i).take (j - i)).toArray := by simp

structure Id where
  node : Int
  inc : Int
  seq : Int
instance : DecidableEq Id := fun x y => decidable_of_iff (x.node = y.node ∧ x.inc = y.inc ∧ x.seq = y.seq) (by cases x; cases y; simp)
def Id.arr (x : Id) : Array Value := #[.int .i64 x.node, .int .i64 x.inc, .int .i64 x.seq]
theorem Id.sz (x : Id) : (Id.arr x).size = 3 := rfl
theorem Id.at0 (x : Id) : (Id.arr x)[0]? = some (.int .i64 x.node) := rfl
theorem Id.at1 (x : Id) : (Id.arr x)[1]? = some (.int .i64 x.inc) := rfl
theorem Id.at2 (x : Id) : (Id.arr x)[2]? = some (.int .i64 x.seq) := rfl
theorem Id.set_node (x : Id) (v : Int) : (Id.arr x).setIfInBounds 0 (.int .i64 v) = Id.arr { x with node := v } := rfl
theorem Id.set_inc (x : Id) (v : Int) : (Id.arr x).setIfInBounds 1 (.int .i64 v) = Id.arr { x with inc := v } := rfl
theorem Id.set_seq (x : Id) (v : Int) : (Id.arr x).setIfInBounds 2 (.int .i64 v) = Id.arr { x with seq := v } := rfl
theorem Id.all (x : Id) : (Id.arr x).extract 0 3 = Id.arr x := (ext_lit _ _ _).trans rfl
theorem Id.one (x : Id) : (Id.arr x).all (·.oneCell') = true := by simp [Id.arr, Value.oneCell']

structure Key where
  id : Id
  att : Int
instance : DecidableEq Key := fun x y => decidable_of_iff (x.id = y.id ∧ x.att = y.att) (by cases x; cases y; simp)
def Key.arr (x : Key) : Array Value := #[.int .i64 x.id.node, .int .i64 x.id.inc, .int .i64 x.id.seq, .int .i64 x.att]
theorem Key.sz (x : Key) : (Key.arr x).size = 4 := rfl
theorem Key.at0 (x : Key) : (Key.arr x)[0]? = some (.int .i64 x.id.node) := rfl
theorem Key.at1 (x : Key) : (Key.arr x)[1]? = some (.int .i64 x.id.inc) := rfl
theorem Key.at2 (x : Key) : (Key.arr x)[2]? = some (.int .i64 x.id.seq) := rfl
theorem Key.at3 (x : Key) : (Key.arr x)[3]? = some (.int .i64 x.att) := rfl
theorem Key.part_id (x : Key) : (Key.arr x).extract 0 3 = Id.arr x.id := (ext_lit _ _ _).trans rfl
theorem Key.set_id_node (x : Key) (v : Int) : (Key.arr x).setIfInBounds 0 (.int .i64 v) = Key.arr { x with id := { x.id with node := v } } := rfl
theorem Key.set_id_inc (x : Key) (v : Int) : (Key.arr x).setIfInBounds 1 (.int .i64 v) = Key.arr { x with id := { x.id with inc := v } } := rfl
theorem Key.set_id_seq (x : Key) (v : Int) : (Key.arr x).setIfInBounds 2 (.int .i64 v) = Key.arr { x with id := { x.id with seq := v } } := rfl
theorem Key.set_att (x : Key) (v : Int) : (Key.arr x).setIfInBounds 3 (.int .i64 v) = Key.arr { x with att := v } := rfl
theorem Key.all (x : Key) : (Key.arr x).extract 0 4 = Key.arr x := (ext_lit _ _ _).trans rfl
theorem Key.one (x : Key) : (Key.arr x).all (·.oneCell') = true := by simp [Key.arr, Value.oneCell']

structure Item where
  key : Key
  parent : Key
  root : Id
  hop : Int
  node : Int
  from_ : Int
  to_ : Int
  how : Int
  code : Int
instance : DecidableEq Item := fun x y => decidable_of_iff (x.key = y.key ∧ x.parent = y.parent ∧ x.root = y.root ∧ x.hop = y.hop ∧ x.node = y.node ∧ x.from_ = y.from_ ∧ x.to_ = y.to_ ∧ x.how = y.how ∧ x.code = y.code) (by cases x; cases y; simp)
def Item.arr (x : Item) : Array Value := #[.int .i64 x.key.id.node, .int .i64 x.key.id.inc, .int .i64 x.key.id.seq, .int .i64 x.key.att, .int .i64 x.parent.id.node, .int .i64 x.parent.id.inc, .int .i64 x.parent.id.seq, .int .i64 x.parent.att, .int .i64 x.root.node, .int .i64 x.root.inc, .int .i64 x.root.seq, .int .i64 x.hop, .int .i64 x.node, .int .i64 x.from_, .int .i64 x.to_, .int .i64 x.how, .int .i64 x.code]
theorem Item.sz (x : Item) : (Item.arr x).size = 17 := rfl
theorem Item.at0 (x : Item) : (Item.arr x)[0]? = some (.int .i64 x.key.id.node) := rfl
theorem Item.at1 (x : Item) : (Item.arr x)[1]? = some (.int .i64 x.key.id.inc) := rfl
theorem Item.at2 (x : Item) : (Item.arr x)[2]? = some (.int .i64 x.key.id.seq) := rfl
theorem Item.at3 (x : Item) : (Item.arr x)[3]? = some (.int .i64 x.key.att) := rfl
theorem Item.at4 (x : Item) : (Item.arr x)[4]? = some (.int .i64 x.parent.id.node) := rfl
theorem Item.at5 (x : Item) : (Item.arr x)[5]? = some (.int .i64 x.parent.id.inc) := rfl
theorem Item.at6 (x : Item) : (Item.arr x)[6]? = some (.int .i64 x.parent.id.seq) := rfl
theorem Item.at7 (x : Item) : (Item.arr x)[7]? = some (.int .i64 x.parent.att) := rfl
theorem Item.at8 (x : Item) : (Item.arr x)[8]? = some (.int .i64 x.root.node) := rfl
theorem Item.at9 (x : Item) : (Item.arr x)[9]? = some (.int .i64 x.root.inc) := rfl
theorem Item.at10 (x : Item) : (Item.arr x)[10]? = some (.int .i64 x.root.seq) := rfl
theorem Item.at11 (x : Item) : (Item.arr x)[11]? = some (.int .i64 x.hop) := rfl
theorem Item.at12 (x : Item) : (Item.arr x)[12]? = some (.int .i64 x.node) := rfl
theorem Item.at13 (x : Item) : (Item.arr x)[13]? = some (.int .i64 x.from_) := rfl
theorem Item.at14 (x : Item) : (Item.arr x)[14]? = some (.int .i64 x.to_) := rfl
theorem Item.at15 (x : Item) : (Item.arr x)[15]? = some (.int .i64 x.how) := rfl
theorem Item.at16 (x : Item) : (Item.arr x)[16]? = some (.int .i64 x.code) := rfl
theorem Item.part_key (x : Item) : (Item.arr x).extract 0 4 = Key.arr x.key := (ext_lit _ _ _).trans rfl
theorem Item.part_key_id (x : Item) : (Item.arr x).extract 0 3 = Id.arr x.key.id := (ext_lit _ _ _).trans rfl
theorem Item.set_key_id_node (x : Item) (v : Int) : (Item.arr x).setIfInBounds 0 (.int .i64 v) = Item.arr { x with key := { x.key with id := { x.key.id with node := v } } } := rfl
theorem Item.set_key_id_inc (x : Item) (v : Int) : (Item.arr x).setIfInBounds 1 (.int .i64 v) = Item.arr { x with key := { x.key with id := { x.key.id with inc := v } } } := rfl
theorem Item.set_key_id_seq (x : Item) (v : Int) : (Item.arr x).setIfInBounds 2 (.int .i64 v) = Item.arr { x with key := { x.key with id := { x.key.id with seq := v } } } := rfl
theorem Item.set_key_att (x : Item) (v : Int) : (Item.arr x).setIfInBounds 3 (.int .i64 v) = Item.arr { x with key := { x.key with att := v } } := rfl
theorem Item.part_parent (x : Item) : (Item.arr x).extract 4 8 = Key.arr x.parent := (ext_lit _ _ _).trans rfl
theorem Item.part_parent_id (x : Item) : (Item.arr x).extract 4 7 = Id.arr x.parent.id := (ext_lit _ _ _).trans rfl
theorem Item.set_parent_id_node (x : Item) (v : Int) : (Item.arr x).setIfInBounds 4 (.int .i64 v) = Item.arr { x with parent := { x.parent with id := { x.parent.id with node := v } } } := rfl
theorem Item.set_parent_id_inc (x : Item) (v : Int) : (Item.arr x).setIfInBounds 5 (.int .i64 v) = Item.arr { x with parent := { x.parent with id := { x.parent.id with inc := v } } } := rfl
theorem Item.set_parent_id_seq (x : Item) (v : Int) : (Item.arr x).setIfInBounds 6 (.int .i64 v) = Item.arr { x with parent := { x.parent with id := { x.parent.id with seq := v } } } := rfl
theorem Item.set_parent_att (x : Item) (v : Int) : (Item.arr x).setIfInBounds 7 (.int .i64 v) = Item.arr { x with parent := { x.parent with att := v } } := rfl
theorem Item.part_root (x : Item) : (Item.arr x).extract 8 11 = Id.arr x.root := (ext_lit _ _ _).trans rfl
theorem Item.set_root_node (x : Item) (v : Int) : (Item.arr x).setIfInBounds 8 (.int .i64 v) = Item.arr { x with root := { x.root with node := v } } := rfl
theorem Item.set_root_inc (x : Item) (v : Int) : (Item.arr x).setIfInBounds 9 (.int .i64 v) = Item.arr { x with root := { x.root with inc := v } } := rfl
theorem Item.set_root_seq (x : Item) (v : Int) : (Item.arr x).setIfInBounds 10 (.int .i64 v) = Item.arr { x with root := { x.root with seq := v } } := rfl
theorem Item.set_hop (x : Item) (v : Int) : (Item.arr x).setIfInBounds 11 (.int .i64 v) = Item.arr { x with hop := v } := rfl
theorem Item.set_node (x : Item) (v : Int) : (Item.arr x).setIfInBounds 12 (.int .i64 v) = Item.arr { x with node := v } := rfl
theorem Item.set_from_ (x : Item) (v : Int) : (Item.arr x).setIfInBounds 13 (.int .i64 v) = Item.arr { x with from_ := v } := rfl
theorem Item.set_to_ (x : Item) (v : Int) : (Item.arr x).setIfInBounds 14 (.int .i64 v) = Item.arr { x with to_ := v } := rfl
theorem Item.set_how (x : Item) (v : Int) : (Item.arr x).setIfInBounds 15 (.int .i64 v) = Item.arr { x with how := v } := rfl
theorem Item.set_code (x : Item) (v : Int) : (Item.arr x).setIfInBounds 16 (.int .i64 v) = Item.arr { x with code := v } := rfl
theorem Item.all (x : Item) : (Item.arr x).extract 0 17 = Item.arr x := (ext_lit _ _ _).trans rfl
theorem Item.one (x : Item) : (Item.arr x).all (·.oneCell') = true := by simp [Item.arr, Value.oneCell']

structure Event where
  kind : Int
  real : Int
  node : Int
  loc : Int
  key : Key
  parent : Key
  root : Id
  hop : Int
  code : Int
  value : Int
instance : DecidableEq Event := fun x y => decidable_of_iff (x.kind = y.kind ∧ x.real = y.real ∧ x.node = y.node ∧ x.loc = y.loc ∧ x.key = y.key ∧ x.parent = y.parent ∧ x.root = y.root ∧ x.hop = y.hop ∧ x.code = y.code ∧ x.value = y.value) (by cases x; cases y; simp)
def Event.arr (x : Event) : Array Value := #[.int .i64 x.kind, .int .i64 x.real, .int .i64 x.node, .int .i64 x.loc, .int .i64 x.key.id.node, .int .i64 x.key.id.inc, .int .i64 x.key.id.seq, .int .i64 x.key.att, .int .i64 x.parent.id.node, .int .i64 x.parent.id.inc, .int .i64 x.parent.id.seq, .int .i64 x.parent.att, .int .i64 x.root.node, .int .i64 x.root.inc, .int .i64 x.root.seq, .int .i64 x.hop, .int .i64 x.code, .int .i64 x.value]
theorem Event.sz (x : Event) : (Event.arr x).size = 18 := rfl
theorem Event.at0 (x : Event) : (Event.arr x)[0]? = some (.int .i64 x.kind) := rfl
theorem Event.at1 (x : Event) : (Event.arr x)[1]? = some (.int .i64 x.real) := rfl
theorem Event.at2 (x : Event) : (Event.arr x)[2]? = some (.int .i64 x.node) := rfl
theorem Event.at3 (x : Event) : (Event.arr x)[3]? = some (.int .i64 x.loc) := rfl
theorem Event.at4 (x : Event) : (Event.arr x)[4]? = some (.int .i64 x.key.id.node) := rfl
theorem Event.at5 (x : Event) : (Event.arr x)[5]? = some (.int .i64 x.key.id.inc) := rfl
theorem Event.at6 (x : Event) : (Event.arr x)[6]? = some (.int .i64 x.key.id.seq) := rfl
theorem Event.at7 (x : Event) : (Event.arr x)[7]? = some (.int .i64 x.key.att) := rfl
theorem Event.at8 (x : Event) : (Event.arr x)[8]? = some (.int .i64 x.parent.id.node) := rfl
theorem Event.at9 (x : Event) : (Event.arr x)[9]? = some (.int .i64 x.parent.id.inc) := rfl
theorem Event.at10 (x : Event) : (Event.arr x)[10]? = some (.int .i64 x.parent.id.seq) := rfl
theorem Event.at11 (x : Event) : (Event.arr x)[11]? = some (.int .i64 x.parent.att) := rfl
theorem Event.at12 (x : Event) : (Event.arr x)[12]? = some (.int .i64 x.root.node) := rfl
theorem Event.at13 (x : Event) : (Event.arr x)[13]? = some (.int .i64 x.root.inc) := rfl
theorem Event.at14 (x : Event) : (Event.arr x)[14]? = some (.int .i64 x.root.seq) := rfl
theorem Event.at15 (x : Event) : (Event.arr x)[15]? = some (.int .i64 x.hop) := rfl
theorem Event.at16 (x : Event) : (Event.arr x)[16]? = some (.int .i64 x.code) := rfl
theorem Event.at17 (x : Event) : (Event.arr x)[17]? = some (.int .i64 x.value) := rfl
theorem Event.set_kind (x : Event) (v : Int) : (Event.arr x).setIfInBounds 0 (.int .i64 v) = Event.arr { x with kind := v } := rfl
theorem Event.set_real (x : Event) (v : Int) : (Event.arr x).setIfInBounds 1 (.int .i64 v) = Event.arr { x with real := v } := rfl
theorem Event.set_node (x : Event) (v : Int) : (Event.arr x).setIfInBounds 2 (.int .i64 v) = Event.arr { x with node := v } := rfl
theorem Event.set_loc (x : Event) (v : Int) : (Event.arr x).setIfInBounds 3 (.int .i64 v) = Event.arr { x with loc := v } := rfl
theorem Event.part_key (x : Event) : (Event.arr x).extract 4 8 = Key.arr x.key := (ext_lit _ _ _).trans rfl
theorem Event.part_key_id (x : Event) : (Event.arr x).extract 4 7 = Id.arr x.key.id := (ext_lit _ _ _).trans rfl
theorem Event.set_key_id_node (x : Event) (v : Int) : (Event.arr x).setIfInBounds 4 (.int .i64 v) = Event.arr { x with key := { x.key with id := { x.key.id with node := v } } } := rfl
theorem Event.set_key_id_inc (x : Event) (v : Int) : (Event.arr x).setIfInBounds 5 (.int .i64 v) = Event.arr { x with key := { x.key with id := { x.key.id with inc := v } } } := rfl
theorem Event.set_key_id_seq (x : Event) (v : Int) : (Event.arr x).setIfInBounds 6 (.int .i64 v) = Event.arr { x with key := { x.key with id := { x.key.id with seq := v } } } := rfl
theorem Event.set_key_att (x : Event) (v : Int) : (Event.arr x).setIfInBounds 7 (.int .i64 v) = Event.arr { x with key := { x.key with att := v } } := rfl
theorem Event.part_parent (x : Event) : (Event.arr x).extract 8 12 = Key.arr x.parent := (ext_lit _ _ _).trans rfl
theorem Event.part_parent_id (x : Event) : (Event.arr x).extract 8 11 = Id.arr x.parent.id := (ext_lit _ _ _).trans rfl
theorem Event.set_parent_id_node (x : Event) (v : Int) : (Event.arr x).setIfInBounds 8 (.int .i64 v) = Event.arr { x with parent := { x.parent with id := { x.parent.id with node := v } } } := rfl
theorem Event.set_parent_id_inc (x : Event) (v : Int) : (Event.arr x).setIfInBounds 9 (.int .i64 v) = Event.arr { x with parent := { x.parent with id := { x.parent.id with inc := v } } } := rfl
theorem Event.set_parent_id_seq (x : Event) (v : Int) : (Event.arr x).setIfInBounds 10 (.int .i64 v) = Event.arr { x with parent := { x.parent with id := { x.parent.id with seq := v } } } := rfl
theorem Event.set_parent_att (x : Event) (v : Int) : (Event.arr x).setIfInBounds 11 (.int .i64 v) = Event.arr { x with parent := { x.parent with att := v } } := rfl
theorem Event.part_root (x : Event) : (Event.arr x).extract 12 15 = Id.arr x.root := (ext_lit _ _ _).trans rfl
theorem Event.set_root_node (x : Event) (v : Int) : (Event.arr x).setIfInBounds 12 (.int .i64 v) = Event.arr { x with root := { x.root with node := v } } := rfl
theorem Event.set_root_inc (x : Event) (v : Int) : (Event.arr x).setIfInBounds 13 (.int .i64 v) = Event.arr { x with root := { x.root with inc := v } } := rfl
theorem Event.set_root_seq (x : Event) (v : Int) : (Event.arr x).setIfInBounds 14 (.int .i64 v) = Event.arr { x with root := { x.root with seq := v } } := rfl
theorem Event.set_hop (x : Event) (v : Int) : (Event.arr x).setIfInBounds 15 (.int .i64 v) = Event.arr { x with hop := v } := rfl
theorem Event.set_code (x : Event) (v : Int) : (Event.arr x).setIfInBounds 16 (.int .i64 v) = Event.arr { x with code := v } := rfl
theorem Event.set_value (x : Event) (v : Int) : (Event.arr x).setIfInBounds 17 (.int .i64 v) = Event.arr { x with value := v } := rfl
theorem Event.all (x : Event) : (Event.arr x).extract 0 18 = Event.arr x := (ext_lit _ _ _).trans rfl
theorem Event.one (x : Event) : (Event.arr x).all (·.oneCell') = true := by simp [Event.arr, Value.oneCell']

structure Packet where
  kind : Int
  src : Int
  dst : Int
  key : Key
  hop : Int
  stamp : Int
  timeout : ByteArray
  until_ : Int
  program : Int
  root : Id
  parent : Key
  code : Int
  value : Int
  more : Bool
  delay : Int
instance : DecidableEq Packet := fun x y => decidable_of_iff (x.kind = y.kind ∧ x.src = y.src ∧ x.dst = y.dst ∧ x.key = y.key ∧ x.hop = y.hop ∧ x.stamp = y.stamp ∧ x.timeout = y.timeout ∧ x.until_ = y.until_ ∧ x.program = y.program ∧ x.root = y.root ∧ x.parent = y.parent ∧ x.code = y.code ∧ x.value = y.value ∧ x.more = y.more ∧ x.delay = y.delay) (by cases x; cases y; simp)
def Packet.arr (x : Packet) : Array Value := #[.int .i64 x.kind, .int .i64 x.src, .int .i64 x.dst, .int .i64 x.key.id.node, .int .i64 x.key.id.inc, .int .i64 x.key.id.seq, .int .i64 x.key.att, .int .i64 x.hop, .int .i64 x.stamp, .string x.timeout, .int .i64 x.until_, .int .i64 x.program, .int .i64 x.root.node, .int .i64 x.root.inc, .int .i64 x.root.seq, .int .i64 x.parent.id.node, .int .i64 x.parent.id.inc, .int .i64 x.parent.id.seq, .int .i64 x.parent.att, .int .i64 x.code, .int .i64 x.value, .bool x.more, .int .i64 x.delay]
theorem Packet.sz (x : Packet) : (Packet.arr x).size = 23 := rfl
theorem Packet.at0 (x : Packet) : (Packet.arr x)[0]? = some (.int .i64 x.kind) := rfl
theorem Packet.at1 (x : Packet) : (Packet.arr x)[1]? = some (.int .i64 x.src) := rfl
theorem Packet.at2 (x : Packet) : (Packet.arr x)[2]? = some (.int .i64 x.dst) := rfl
theorem Packet.at3 (x : Packet) : (Packet.arr x)[3]? = some (.int .i64 x.key.id.node) := rfl
theorem Packet.at4 (x : Packet) : (Packet.arr x)[4]? = some (.int .i64 x.key.id.inc) := rfl
theorem Packet.at5 (x : Packet) : (Packet.arr x)[5]? = some (.int .i64 x.key.id.seq) := rfl
theorem Packet.at6 (x : Packet) : (Packet.arr x)[6]? = some (.int .i64 x.key.att) := rfl
theorem Packet.at7 (x : Packet) : (Packet.arr x)[7]? = some (.int .i64 x.hop) := rfl
theorem Packet.at8 (x : Packet) : (Packet.arr x)[8]? = some (.int .i64 x.stamp) := rfl
theorem Packet.at9 (x : Packet) : (Packet.arr x)[9]? = some (.string x.timeout) := rfl
theorem Packet.at10 (x : Packet) : (Packet.arr x)[10]? = some (.int .i64 x.until_) := rfl
theorem Packet.at11 (x : Packet) : (Packet.arr x)[11]? = some (.int .i64 x.program) := rfl
theorem Packet.at12 (x : Packet) : (Packet.arr x)[12]? = some (.int .i64 x.root.node) := rfl
theorem Packet.at13 (x : Packet) : (Packet.arr x)[13]? = some (.int .i64 x.root.inc) := rfl
theorem Packet.at14 (x : Packet) : (Packet.arr x)[14]? = some (.int .i64 x.root.seq) := rfl
theorem Packet.at15 (x : Packet) : (Packet.arr x)[15]? = some (.int .i64 x.parent.id.node) := rfl
theorem Packet.at16 (x : Packet) : (Packet.arr x)[16]? = some (.int .i64 x.parent.id.inc) := rfl
theorem Packet.at17 (x : Packet) : (Packet.arr x)[17]? = some (.int .i64 x.parent.id.seq) := rfl
theorem Packet.at18 (x : Packet) : (Packet.arr x)[18]? = some (.int .i64 x.parent.att) := rfl
theorem Packet.at19 (x : Packet) : (Packet.arr x)[19]? = some (.int .i64 x.code) := rfl
theorem Packet.at20 (x : Packet) : (Packet.arr x)[20]? = some (.int .i64 x.value) := rfl
theorem Packet.at21 (x : Packet) : (Packet.arr x)[21]? = some (.bool x.more) := rfl
theorem Packet.at22 (x : Packet) : (Packet.arr x)[22]? = some (.int .i64 x.delay) := rfl
theorem Packet.set_kind (x : Packet) (v : Int) : (Packet.arr x).setIfInBounds 0 (.int .i64 v) = Packet.arr { x with kind := v } := rfl
theorem Packet.set_src (x : Packet) (v : Int) : (Packet.arr x).setIfInBounds 1 (.int .i64 v) = Packet.arr { x with src := v } := rfl
theorem Packet.set_dst (x : Packet) (v : Int) : (Packet.arr x).setIfInBounds 2 (.int .i64 v) = Packet.arr { x with dst := v } := rfl
theorem Packet.part_key (x : Packet) : (Packet.arr x).extract 3 7 = Key.arr x.key := (ext_lit _ _ _).trans rfl
theorem Packet.part_key_id (x : Packet) : (Packet.arr x).extract 3 6 = Id.arr x.key.id := (ext_lit _ _ _).trans rfl
theorem Packet.set_key_id_node (x : Packet) (v : Int) : (Packet.arr x).setIfInBounds 3 (.int .i64 v) = Packet.arr { x with key := { x.key with id := { x.key.id with node := v } } } := rfl
theorem Packet.set_key_id_inc (x : Packet) (v : Int) : (Packet.arr x).setIfInBounds 4 (.int .i64 v) = Packet.arr { x with key := { x.key with id := { x.key.id with inc := v } } } := rfl
theorem Packet.set_key_id_seq (x : Packet) (v : Int) : (Packet.arr x).setIfInBounds 5 (.int .i64 v) = Packet.arr { x with key := { x.key with id := { x.key.id with seq := v } } } := rfl
theorem Packet.set_key_att (x : Packet) (v : Int) : (Packet.arr x).setIfInBounds 6 (.int .i64 v) = Packet.arr { x with key := { x.key with att := v } } := rfl
theorem Packet.set_hop (x : Packet) (v : Int) : (Packet.arr x).setIfInBounds 7 (.int .i64 v) = Packet.arr { x with hop := v } := rfl
theorem Packet.set_stamp (x : Packet) (v : Int) : (Packet.arr x).setIfInBounds 8 (.int .i64 v) = Packet.arr { x with stamp := v } := rfl
theorem Packet.set_timeout (x : Packet) (v : ByteArray) : (Packet.arr x).setIfInBounds 9 (.string v) = Packet.arr { x with timeout := v } := rfl
theorem Packet.set_until_ (x : Packet) (v : Int) : (Packet.arr x).setIfInBounds 10 (.int .i64 v) = Packet.arr { x with until_ := v } := rfl
theorem Packet.set_program (x : Packet) (v : Int) : (Packet.arr x).setIfInBounds 11 (.int .i64 v) = Packet.arr { x with program := v } := rfl
theorem Packet.part_root (x : Packet) : (Packet.arr x).extract 12 15 = Id.arr x.root := (ext_lit _ _ _).trans rfl
theorem Packet.set_root_node (x : Packet) (v : Int) : (Packet.arr x).setIfInBounds 12 (.int .i64 v) = Packet.arr { x with root := { x.root with node := v } } := rfl
theorem Packet.set_root_inc (x : Packet) (v : Int) : (Packet.arr x).setIfInBounds 13 (.int .i64 v) = Packet.arr { x with root := { x.root with inc := v } } := rfl
theorem Packet.set_root_seq (x : Packet) (v : Int) : (Packet.arr x).setIfInBounds 14 (.int .i64 v) = Packet.arr { x with root := { x.root with seq := v } } := rfl
theorem Packet.part_parent (x : Packet) : (Packet.arr x).extract 15 19 = Key.arr x.parent := (ext_lit _ _ _).trans rfl
theorem Packet.part_parent_id (x : Packet) : (Packet.arr x).extract 15 18 = Id.arr x.parent.id := (ext_lit _ _ _).trans rfl
theorem Packet.set_parent_id_node (x : Packet) (v : Int) : (Packet.arr x).setIfInBounds 15 (.int .i64 v) = Packet.arr { x with parent := { x.parent with id := { x.parent.id with node := v } } } := rfl
theorem Packet.set_parent_id_inc (x : Packet) (v : Int) : (Packet.arr x).setIfInBounds 16 (.int .i64 v) = Packet.arr { x with parent := { x.parent with id := { x.parent.id with inc := v } } } := rfl
theorem Packet.set_parent_id_seq (x : Packet) (v : Int) : (Packet.arr x).setIfInBounds 17 (.int .i64 v) = Packet.arr { x with parent := { x.parent with id := { x.parent.id with seq := v } } } := rfl
theorem Packet.set_parent_att (x : Packet) (v : Int) : (Packet.arr x).setIfInBounds 18 (.int .i64 v) = Packet.arr { x with parent := { x.parent with att := v } } := rfl
theorem Packet.set_code (x : Packet) (v : Int) : (Packet.arr x).setIfInBounds 19 (.int .i64 v) = Packet.arr { x with code := v } := rfl
theorem Packet.set_value (x : Packet) (v : Int) : (Packet.arr x).setIfInBounds 20 (.int .i64 v) = Packet.arr { x with value := v } := rfl
theorem Packet.set_more (x : Packet) (v : Bool) : (Packet.arr x).setIfInBounds 21 (.bool v) = Packet.arr { x with more := v } := rfl
theorem Packet.set_delay (x : Packet) (v : Int) : (Packet.arr x).setIfInBounds 22 (.int .i64 v) = Packet.arr { x with delay := v } := rfl
theorem Packet.all (x : Packet) : (Packet.arr x).extract 0 23 = Packet.arr x := (ext_lit _ _ _).trans rfl
theorem Packet.one (x : Packet) : (Packet.arr x).all (·.oneCell') = true := by simp [Packet.arr, Value.oneCell']

structure GoOp where
  kind : Int
  a : Int
  b : Int
instance : DecidableEq GoOp := fun x y => decidable_of_iff (x.kind = y.kind ∧ x.a = y.a ∧ x.b = y.b) (by cases x; cases y; simp)
def GoOp.arr (x : GoOp) : Array Value := #[.int .i64 x.kind, .int .i64 x.a, .int .i64 x.b]
theorem GoOp.sz (x : GoOp) : (GoOp.arr x).size = 3 := rfl
theorem GoOp.at0 (x : GoOp) : (GoOp.arr x)[0]? = some (.int .i64 x.kind) := rfl
theorem GoOp.at1 (x : GoOp) : (GoOp.arr x)[1]? = some (.int .i64 x.a) := rfl
theorem GoOp.at2 (x : GoOp) : (GoOp.arr x)[2]? = some (.int .i64 x.b) := rfl
theorem GoOp.set_kind (x : GoOp) (v : Int) : (GoOp.arr x).setIfInBounds 0 (.int .i64 v) = GoOp.arr { x with kind := v } := rfl
theorem GoOp.set_a (x : GoOp) (v : Int) : (GoOp.arr x).setIfInBounds 1 (.int .i64 v) = GoOp.arr { x with a := v } := rfl
theorem GoOp.set_b (x : GoOp) (v : Int) : (GoOp.arr x).setIfInBounds 2 (.int .i64 v) = GoOp.arr { x with b := v } := rfl
theorem GoOp.all (x : GoOp) : (GoOp.arr x).extract 0 3 = GoOp.arr x := (ext_lit _ _ _).trans rfl
theorem GoOp.one (x : GoOp) : (GoOp.arr x).all (·.oneCell') = true := by simp [GoOp.arr, Value.oneCell']

structure Config where
  nodes : Int
  skew : Int
  lease : Int
  grain : Int
  least : Int
  hops : Int
  cap : Int
  fan : Int
  attempts : Int
  base : Int
  most : Int
  wait : Int
  tokens : Int
  progs : Value
def Config.arr (x : Config) : Array Value := #[.int .i64 x.nodes, .int .i64 x.skew, .int .i64 x.lease, .int .i64 x.grain, .int .i64 x.least, .int .i64 x.hops, .int .i64 x.cap, .int .i64 x.fan, .int .i64 x.attempts, .int .i64 x.base, .int .i64 x.most, .int .i64 x.wait, .int .i64 x.tokens, x.progs]
theorem Config.sz (x : Config) : (Config.arr x).size = 14 := rfl
theorem Config.at0 (x : Config) : (Config.arr x)[0]? = some (.int .i64 x.nodes) := rfl
theorem Config.at1 (x : Config) : (Config.arr x)[1]? = some (.int .i64 x.skew) := rfl
theorem Config.at2 (x : Config) : (Config.arr x)[2]? = some (.int .i64 x.lease) := rfl
theorem Config.at3 (x : Config) : (Config.arr x)[3]? = some (.int .i64 x.grain) := rfl
theorem Config.at4 (x : Config) : (Config.arr x)[4]? = some (.int .i64 x.least) := rfl
theorem Config.at5 (x : Config) : (Config.arr x)[5]? = some (.int .i64 x.hops) := rfl
theorem Config.at6 (x : Config) : (Config.arr x)[6]? = some (.int .i64 x.cap) := rfl
theorem Config.at7 (x : Config) : (Config.arr x)[7]? = some (.int .i64 x.fan) := rfl
theorem Config.at8 (x : Config) : (Config.arr x)[8]? = some (.int .i64 x.attempts) := rfl
theorem Config.at9 (x : Config) : (Config.arr x)[9]? = some (.int .i64 x.base) := rfl
theorem Config.at10 (x : Config) : (Config.arr x)[10]? = some (.int .i64 x.most) := rfl
theorem Config.at11 (x : Config) : (Config.arr x)[11]? = some (.int .i64 x.wait) := rfl
theorem Config.at12 (x : Config) : (Config.arr x)[12]? = some (.int .i64 x.tokens) := rfl
theorem Config.at13 (x : Config) : (Config.arr x)[13]? = some (x.progs) := rfl
theorem Config.set_nodes (x : Config) (v : Int) : (Config.arr x).setIfInBounds 0 (.int .i64 v) = Config.arr { x with nodes := v } := rfl
theorem Config.set_skew (x : Config) (v : Int) : (Config.arr x).setIfInBounds 1 (.int .i64 v) = Config.arr { x with skew := v } := rfl
theorem Config.set_lease (x : Config) (v : Int) : (Config.arr x).setIfInBounds 2 (.int .i64 v) = Config.arr { x with lease := v } := rfl
theorem Config.set_grain (x : Config) (v : Int) : (Config.arr x).setIfInBounds 3 (.int .i64 v) = Config.arr { x with grain := v } := rfl
theorem Config.set_least (x : Config) (v : Int) : (Config.arr x).setIfInBounds 4 (.int .i64 v) = Config.arr { x with least := v } := rfl
theorem Config.set_hops (x : Config) (v : Int) : (Config.arr x).setIfInBounds 5 (.int .i64 v) = Config.arr { x with hops := v } := rfl
theorem Config.set_cap (x : Config) (v : Int) : (Config.arr x).setIfInBounds 6 (.int .i64 v) = Config.arr { x with cap := v } := rfl
theorem Config.set_fan (x : Config) (v : Int) : (Config.arr x).setIfInBounds 7 (.int .i64 v) = Config.arr { x with fan := v } := rfl
theorem Config.set_attempts (x : Config) (v : Int) : (Config.arr x).setIfInBounds 8 (.int .i64 v) = Config.arr { x with attempts := v } := rfl
theorem Config.set_base (x : Config) (v : Int) : (Config.arr x).setIfInBounds 9 (.int .i64 v) = Config.arr { x with base := v } := rfl
theorem Config.set_most (x : Config) (v : Int) : (Config.arr x).setIfInBounds 10 (.int .i64 v) = Config.arr { x with most := v } := rfl
theorem Config.set_wait (x : Config) (v : Int) : (Config.arr x).setIfInBounds 11 (.int .i64 v) = Config.arr { x with wait := v } := rfl
theorem Config.set_tokens (x : Config) (v : Int) : (Config.arr x).setIfInBounds 12 (.int .i64 v) = Config.arr { x with tokens := v } := rfl
theorem Config.set_progs (x : Config) (v : Value) : (Config.arr x).setIfInBounds 13 (v) = Config.arr { x with progs := v } := rfl
theorem Config.all (x : Config) : (Config.arr x).extract 0 14 = Config.arr x := (ext_lit _ _ _).trans rfl

structure Room where
  now : Int
  running : Int
  programs : Int
  seen : Bool
instance : DecidableEq Room := fun x y => decidable_of_iff (x.now = y.now ∧ x.running = y.running ∧ x.programs = y.programs ∧ x.seen = y.seen) (by cases x; cases y; simp)
def Room.arr (x : Room) : Array Value := #[.int .i64 x.now, .int .i64 x.running, .int .i64 x.programs, .bool x.seen]
theorem Room.sz (x : Room) : (Room.arr x).size = 4 := rfl
theorem Room.at0 (x : Room) : (Room.arr x)[0]? = some (.int .i64 x.now) := rfl
theorem Room.at1 (x : Room) : (Room.arr x)[1]? = some (.int .i64 x.running) := rfl
theorem Room.at2 (x : Room) : (Room.arr x)[2]? = some (.int .i64 x.programs) := rfl
theorem Room.at3 (x : Room) : (Room.arr x)[3]? = some (.bool x.seen) := rfl
theorem Room.set_now (x : Room) (v : Int) : (Room.arr x).setIfInBounds 0 (.int .i64 v) = Room.arr { x with now := v } := rfl
theorem Room.set_running (x : Room) (v : Int) : (Room.arr x).setIfInBounds 1 (.int .i64 v) = Room.arr { x with running := v } := rfl
theorem Room.set_programs (x : Room) (v : Int) : (Room.arr x).setIfInBounds 2 (.int .i64 v) = Room.arr { x with programs := v } := rfl
theorem Room.set_seen (x : Room) (v : Bool) : (Room.arr x).setIfInBounds 3 (.bool v) = Room.arr { x with seen := v } := rfl
theorem Room.all (x : Room) : (Room.arr x).extract 0 4 = Room.arr x := (ext_lit _ _ _).trans rfl
theorem Room.one (x : Room) : (Room.arr x).all (·.oneCell') = true := by simp [Room.arr, Value.oneCell']

structure Seg where
  at_ : Int
  from_ : Int
  to_ : Int
instance : DecidableEq Seg := fun x y => decidable_of_iff (x.at_ = y.at_ ∧ x.from_ = y.from_ ∧ x.to_ = y.to_) (by cases x; cases y; simp)
def Seg.arr (x : Seg) : Array Value := #[.int .i64 x.at_, .int .i64 x.from_, .int .i64 x.to_]
theorem Seg.sz (x : Seg) : (Seg.arr x).size = 3 := rfl
theorem Seg.at0 (x : Seg) : (Seg.arr x)[0]? = some (.int .i64 x.at_) := rfl
theorem Seg.at1 (x : Seg) : (Seg.arr x)[1]? = some (.int .i64 x.from_) := rfl
theorem Seg.at2 (x : Seg) : (Seg.arr x)[2]? = some (.int .i64 x.to_) := rfl
theorem Seg.set_at_ (x : Seg) (v : Int) : (Seg.arr x).setIfInBounds 0 (.int .i64 v) = Seg.arr { x with at_ := v } := rfl
theorem Seg.set_from_ (x : Seg) (v : Int) : (Seg.arr x).setIfInBounds 1 (.int .i64 v) = Seg.arr { x with from_ := v } := rfl
theorem Seg.set_to_ (x : Seg) (v : Int) : (Seg.arr x).setIfInBounds 2 (.int .i64 v) = Seg.arr { x with to_ := v } := rfl
theorem Seg.all (x : Seg) : (Seg.arr x).extract 0 3 = Seg.arr x := (ext_lit _ _ _).trans rfl
theorem Seg.one (x : Seg) : (Seg.arr x).all (·.oneCell') = true := by simp [Seg.arr, Value.oneCell']

structure Find where
  kind : Int
  at_ : Int
instance : DecidableEq Find := fun x y => decidable_of_iff (x.kind = y.kind ∧ x.at_ = y.at_) (by cases x; cases y; simp)
def Find.arr (x : Find) : Array Value := #[.int .i64 x.kind, .int .i64 x.at_]
theorem Find.sz (x : Find) : (Find.arr x).size = 2 := rfl
theorem Find.at0 (x : Find) : (Find.arr x)[0]? = some (.int .i64 x.kind) := rfl
theorem Find.at1 (x : Find) : (Find.arr x)[1]? = some (.int .i64 x.at_) := rfl
theorem Find.set_kind (x : Find) (v : Int) : (Find.arr x).setIfInBounds 0 (.int .i64 v) = Find.arr { x with kind := v } := rfl
theorem Find.set_at_ (x : Find) (v : Int) : (Find.arr x).setIfInBounds 1 (.int .i64 v) = Find.arr { x with at_ := v } := rfl
theorem Find.all (x : Find) : (Find.arr x).extract 0 2 = Find.arr x := (ext_lit _ _ _).trans rfl
theorem Find.one (x : Find) : (Find.arr x).all (·.oneCell') = true := by simp [Find.arr, Value.oneCell']

structure Step where
  kind : Int
  a : Int
  b : Int
  c : Int
  d : Int
instance : DecidableEq Step := fun x y => decidable_of_iff (x.kind = y.kind ∧ x.a = y.a ∧ x.b = y.b ∧ x.c = y.c ∧ x.d = y.d) (by cases x; cases y; simp)
def Step.arr (x : Step) : Array Value := #[.int .i64 x.kind, .int .i64 x.a, .int .i64 x.b, .int .i64 x.c, .int .i64 x.d]
theorem Step.sz (x : Step) : (Step.arr x).size = 5 := rfl
theorem Step.at0 (x : Step) : (Step.arr x)[0]? = some (.int .i64 x.kind) := rfl
theorem Step.at1 (x : Step) : (Step.arr x)[1]? = some (.int .i64 x.a) := rfl
theorem Step.at2 (x : Step) : (Step.arr x)[2]? = some (.int .i64 x.b) := rfl
theorem Step.at3 (x : Step) : (Step.arr x)[3]? = some (.int .i64 x.c) := rfl
theorem Step.at4 (x : Step) : (Step.arr x)[4]? = some (.int .i64 x.d) := rfl
theorem Step.set_kind (x : Step) (v : Int) : (Step.arr x).setIfInBounds 0 (.int .i64 v) = Step.arr { x with kind := v } := rfl
theorem Step.set_a (x : Step) (v : Int) : (Step.arr x).setIfInBounds 1 (.int .i64 v) = Step.arr { x with a := v } := rfl
theorem Step.set_b (x : Step) (v : Int) : (Step.arr x).setIfInBounds 2 (.int .i64 v) = Step.arr { x with b := v } := rfl
theorem Step.set_c (x : Step) (v : Int) : (Step.arr x).setIfInBounds 3 (.int .i64 v) = Step.arr { x with c := v } := rfl
theorem Step.set_d (x : Step) (v : Int) : (Step.arr x).setIfInBounds 4 (.int .i64 v) = Step.arr { x with d := v } := rfl
theorem Step.all (x : Step) : (Step.arr x).extract 0 5 = Step.arr x := (ext_lit _ _ _).trans rfl
theorem Step.one (x : Step) : (Step.arr x).all (·.oneCell') = true := by simp [Step.arr, Value.oneCell']

structure Plan where
  calls : Int
  rounds : Int
  value : Int
instance : DecidableEq Plan := fun x y => decidable_of_iff (x.calls = y.calls ∧ x.rounds = y.rounds ∧ x.value = y.value) (by cases x; cases y; simp)
def Plan.arr (x : Plan) : Array Value := #[.int .i64 x.calls, .int .i64 x.rounds, .int .i64 x.value]
theorem Plan.sz (x : Plan) : (Plan.arr x).size = 3 := rfl
theorem Plan.at0 (x : Plan) : (Plan.arr x)[0]? = some (.int .i64 x.calls) := rfl
theorem Plan.at1 (x : Plan) : (Plan.arr x)[1]? = some (.int .i64 x.rounds) := rfl
theorem Plan.at2 (x : Plan) : (Plan.arr x)[2]? = some (.int .i64 x.value) := rfl
theorem Plan.set_calls (x : Plan) (v : Int) : (Plan.arr x).setIfInBounds 0 (.int .i64 v) = Plan.arr { x with calls := v } := rfl
theorem Plan.set_rounds (x : Plan) (v : Int) : (Plan.arr x).setIfInBounds 1 (.int .i64 v) = Plan.arr { x with rounds := v } := rfl
theorem Plan.set_value (x : Plan) (v : Int) : (Plan.arr x).setIfInBounds 2 (.int .i64 v) = Plan.arr { x with value := v } := rfl
theorem Plan.all (x : Plan) : (Plan.arr x).extract 0 3 = Plan.arr x := (ext_lit _ _ _).trans rfl
theorem Plan.one (x : Plan) : (Plan.arr x).all (·.oneCell') = true := by simp [Plan.arr, Value.oneCell']

section
variable {P : Program} {d : Nat} {xs ys : Array Value} {f : Field} {fs : List Field} {a b : Value} {r s : Bool} {w : World}
theorem eqf_last (hn : (f.name == "_") = false) (ha : (part f.type xs f.offset).run P w = .ok a w) (hb : (part f.type ys f.offset).run P w = .ok b w) (he : (Op.equalIn d f.type a b).run P w = .ok r w) : (Op.eqFields d xs ys [f]).run P w = .ok r w := by
  have hn' : f.name ≠ "_" := by simpa using hn
  simp only [Op.eqFields, if_pos hn', Sem.run_bind, ha, hb, he, Result.andThen_ok]
  cases r <;> simp
theorem eqf_cons (hn : (f.name == "_") = false) (ha : (part f.type xs f.offset).run P w = .ok a w) (hb : (part f.type ys f.offset).run P w = .ok b w) (he : (Op.equalIn d f.type a b).run P w = .ok r w) (hr : (Op.eqFields d xs ys fs).run P w = .ok s w) : (Op.eqFields d xs ys (f :: fs)).run P w = .ok (r && s) w := by
  have hn' : f.name ≠ "_" := by simpa using hn
  rw [Op.eqFields]
  simp only [if_pos hn', Sem.run_bind, ha, hb, he, Result.andThen_ok]
  cases r
  · simp
  · simpa using hr
theorem eqA_of {t : TypeId} {fs : Array Field} (hu : P.underlying t = some (.struct fs)) (hp : P.stoodInHeld t = false) (h : (Op.eqFields d xs ys fs.toList).run P w = .ok r w) : (Op.equalIn (d + 1) t (.agg xs) (.agg ys)).run P w = .ok r w := by
  have hf : P.fieldsOf t = fs := by simp [Program.fieldsOf, hu]
  rw [run_equalIn_struct (P := P) w d t xs ys (by rw [hf]; exact hu) hp, hf]
  exact h
end
theorem eqInt (d : Nat) (w : World) (x y : Int) : (Op.equalIn (d + 1) 3 (.int .i64 x) (.int .i64 y)).run Tryz.prog w = .ok (decide (x = y)) w := by
  go_simp
  first | done | rfl | (by_cases h : x = y <;> simp [h])
theorem eqBool (d : Nat) (w : World) (x y : Bool) : (Op.equalIn (d + 1) 4 (.bool x) (.bool y)).run Tryz.prog w = .ok (decide (x = y)) w := by
  go_simp
  cases x <;> cases y <;> simp
theorem byteArray_toList_inj {x y : ByteArray} (h : x.toList = y.toList) : x = y := by
  rw [ByteArray.toList_eq, ByteArray.toList_eq] at h
  cases x; cases y
  simp at h
  rw [h]
theorem eqStr (d : Nat) (w : World) (x y : ByteArray) : (Op.equalIn (d + 1) 9 (.string x) (.string y)).run Tryz.prog w = .ok (decide (x = y)) w := by
  go_simp
  by_cases h : x = y
  · subst h; simp
  · have : ¬ x.toList = y.toList := fun e => h (byteArray_toList_inj e)
    simp [h, this]

attribute [local go_sem] Id.sz Id.at0 Id.at1 Id.at2 Id.set_node Id.set_inc Id.set_seq Id.all Key.sz Key.at0 Key.at1 Key.at2 Key.at3 Key.part_id Key.set_id_node Key.set_id_inc Key.set_id_seq Key.set_att Key.all Item.sz Item.at0 Item.at1 Item.at2 Item.at3 Item.at4 Item.at5 Item.at6 Item.at7 Item.at8 Item.at9 Item.at10 Item.at11 Item.at12 Item.at13 Item.at14 Item.at15 Item.at16 Item.part_key Item.part_key_id Item.set_key_id_node Item.set_key_id_inc Item.set_key_id_seq Item.set_key_att Item.part_parent Item.part_parent_id Item.set_parent_id_node Item.set_parent_id_inc Item.set_parent_id_seq Item.set_parent_att Item.part_root Item.set_root_node Item.set_root_inc Item.set_root_seq Item.set_hop Item.set_node Item.set_from_ Item.set_to_ Item.set_how Item.set_code Item.all Event.sz Event.at0 Event.at1 Event.at2 Event.at3 Event.at4 Event.at5 Event.at6 Event.at7 Event.at8 Event.at9 Event.at10 Event.at11 Event.at12 Event.at13 Event.at14 Event.at15 Event.at16 Event.at17 Event.set_kind Event.set_real Event.set_node Event.set_loc Event.part_key Event.part_key_id Event.set_key_id_node Event.set_key_id_inc Event.set_key_id_seq Event.set_key_att Event.part_parent Event.part_parent_id Event.set_parent_id_node Event.set_parent_id_inc Event.set_parent_id_seq Event.set_parent_att Event.part_root Event.set_root_node Event.set_root_inc Event.set_root_seq Event.set_hop Event.set_code Event.set_value Event.all Packet.sz Packet.at0 Packet.at1 Packet.at2 Packet.at3 Packet.at4 Packet.at5 Packet.at6 Packet.at7 Packet.at8 Packet.at9 Packet.at10 Packet.at11 Packet.at12 Packet.at13 Packet.at14 Packet.at15 Packet.at16 Packet.at17 Packet.at18 Packet.at19 Packet.at20 Packet.at21 Packet.at22 Packet.set_kind Packet.set_src Packet.set_dst Packet.part_key Packet.part_key_id Packet.set_key_id_node Packet.set_key_id_inc Packet.set_key_id_seq Packet.set_key_att Packet.set_hop Packet.set_stamp Packet.set_timeout Packet.set_until_ Packet.set_program Packet.part_root Packet.set_root_node Packet.set_root_inc Packet.set_root_seq Packet.part_parent Packet.part_parent_id Packet.set_parent_id_node Packet.set_parent_id_inc Packet.set_parent_id_seq Packet.set_parent_att Packet.set_code Packet.set_value Packet.set_more Packet.set_delay Packet.all GoOp.sz GoOp.at0 GoOp.at1 GoOp.at2 GoOp.set_kind GoOp.set_a GoOp.set_b GoOp.all Config.sz Config.at0 Config.at1 Config.at2 Config.at3 Config.at4 Config.at5 Config.at6 Config.at7 Config.at8 Config.at9 Config.at10 Config.at11 Config.at12 Config.at13 Config.set_nodes Config.set_skew Config.set_lease Config.set_grain Config.set_least Config.set_hops Config.set_cap Config.set_fan Config.set_attempts Config.set_base Config.set_most Config.set_wait Config.set_tokens Config.set_progs Config.all Room.sz Room.at0 Room.at1 Room.at2 Room.at3 Room.set_now Room.set_running Room.set_programs Room.set_seen Room.all Seg.sz Seg.at0 Seg.at1 Seg.at2 Seg.set_at_ Seg.set_from_ Seg.set_to_ Seg.all Find.sz Find.at0 Find.at1 Find.set_kind Find.set_at_ Find.all Step.sz Step.at0 Step.at1 Step.at2 Step.at3 Step.at4 Step.set_kind Step.set_a Step.set_b Step.set_c Step.set_d Step.all Plan.sz Plan.at0 Plan.at1 Plan.at2 Plan.set_calls Plan.set_rounds Plan.set_value Plan.all

theorem eqId (d : Nat) (w : World) (x y : Id) : (Op.equalIn (d + 2) 54 (.agg (Id.arr x)) (.agg (Id.arr y))).run Tryz.prog w = .ok (decide (x = y)) w := by
  have hb : decide (x = y) = (decide (x.node = y.node) && (decide (x.inc = y.inc) && decide (x.seq = y.seq))) := by
    rw [Bool.eq_iff_iff]; cases x; cases y; simp [Id.mk.injEq]
  rw [hb]
  refine eqA_of Tryz.underlying54 (by kernel_rfl) ?_
  refine eqf_cons (by rfl) (by go_simp; first | done | rfl) (by go_simp; first | done | rfl) (eqInt _ _ _ _) ?_
  refine eqf_cons (by rfl) (by go_simp; first | done | rfl) (by go_simp; first | done | rfl) (eqInt _ _ _ _) ?_
  exact eqf_last (by rfl) (by go_simp; first | done | rfl) (by go_simp; first | done | rfl) (eqInt _ _ _ _)
theorem eqTId (w : World) (x y : Id) : (Op.equalIn 10000 54 (.agg (Id.arr x)) (.agg (Id.arr y))).run Tryz.prog w = .ok (decide (x = y)) w := eqId 9998 w x y
theorem eqKey (d : Nat) (w : World) (x y : Key) : (Op.equalIn (d + 3) 56 (.agg (Key.arr x)) (.agg (Key.arr y))).run Tryz.prog w = .ok (decide (x = y)) w := by
  have hb : decide (x = y) = (decide (x.id = y.id) && decide (x.att = y.att)) := by
    rw [Bool.eq_iff_iff]; cases x; cases y; simp [Key.mk.injEq]
  rw [hb]
  refine eqA_of Tryz.underlying56 (by kernel_rfl) ?_
  refine eqf_cons (by rfl) (by go_simp; first | done | rfl) (by go_simp; first | done | rfl) (eqId (d + 0) w x.id y.id) ?_
  exact eqf_last (by rfl) (by go_simp; first | done | rfl) (by go_simp; first | done | rfl) (eqInt _ _ _ _)
theorem eqTKey (w : World) (x y : Key) : (Op.equalIn 10000 56 (.agg (Key.arr x)) (.agg (Key.arr y))).run Tryz.prog w = .ok (decide (x = y)) w := eqKey 9997 w x y
theorem eqEvent (d : Nat) (w : World) (x y : Event) : (Op.equalIn (d + 4) 73 (.agg (Event.arr x)) (.agg (Event.arr y))).run Tryz.prog w = .ok (decide (x = y)) w := by
  have hb : decide (x = y) = (decide (x.kind = y.kind) && (decide (x.real = y.real) && (decide (x.node = y.node) && (decide (x.loc = y.loc) && (decide (x.key = y.key) && (decide (x.parent = y.parent) && (decide (x.root = y.root) && (decide (x.hop = y.hop) && (decide (x.code = y.code) && decide (x.value = y.value)))))))))) := by
    rw [Bool.eq_iff_iff]; cases x; cases y; simp [Event.mk.injEq]
  rw [hb]
  refine eqA_of Tryz.underlying73 (by kernel_rfl) ?_
  refine eqf_cons (by rfl) (by go_simp; first | done | rfl) (by go_simp; first | done | rfl) (eqInt _ _ _ _) ?_
  refine eqf_cons (by rfl) (by go_simp; first | done | rfl) (by go_simp; first | done | rfl) (eqInt _ _ _ _) ?_
  refine eqf_cons (by rfl) (by go_simp; first | done | rfl) (by go_simp; first | done | rfl) (eqInt _ _ _ _) ?_
  refine eqf_cons (by rfl) (by go_simp; first | done | rfl) (by go_simp; first | done | rfl) (eqInt _ _ _ _) ?_
  refine eqf_cons (by rfl) (by go_simp; first | done | rfl) (by go_simp; first | done | rfl) (eqKey (d + 0) w x.key y.key) ?_
  refine eqf_cons (by rfl) (by go_simp; first | done | rfl) (by go_simp; first | done | rfl) (eqKey (d + 0) w x.parent y.parent) ?_
  refine eqf_cons (by rfl) (by go_simp; first | done | rfl) (by go_simp; first | done | rfl) (eqId (d + 1) w x.root y.root) ?_
  refine eqf_cons (by rfl) (by go_simp; first | done | rfl) (by go_simp; first | done | rfl) (eqInt _ _ _ _) ?_
  refine eqf_cons (by rfl) (by go_simp; first | done | rfl) (by go_simp; first | done | rfl) (eqInt _ _ _ _) ?_
  exact eqf_last (by rfl) (by go_simp; first | done | rfl) (by go_simp; first | done | rfl) (eqInt _ _ _ _)
theorem eqTEvent (w : World) (x y : Event) : (Op.equalIn 10000 73 (.agg (Event.arr x)) (.agg (Event.arr y))).run Tryz.prog w = .ok (decide (x = y)) w := eqEvent 9996 w x y
theorem eqPacket (d : Nat) (w : World) (x y : Packet) : (Op.equalIn (d + 4) 58 (.agg (Packet.arr x)) (.agg (Packet.arr y))).run Tryz.prog w = .ok (decide (x = y)) w := by
  have hb : decide (x = y) = (decide (x.kind = y.kind) && (decide (x.src = y.src) && (decide (x.dst = y.dst) && (decide (x.key = y.key) && (decide (x.hop = y.hop) && (decide (x.stamp = y.stamp) && (decide (x.timeout = y.timeout) && (decide (x.until_ = y.until_) && (decide (x.program = y.program) && (decide (x.root = y.root) && (decide (x.parent = y.parent) && (decide (x.code = y.code) && (decide (x.value = y.value) && (decide (x.more = y.more) && decide (x.delay = y.delay))))))))))))))) := by
    rw [Bool.eq_iff_iff]; cases x; cases y; simp [Packet.mk.injEq]
  rw [hb]
  refine eqA_of Tryz.underlying58 (by kernel_rfl) ?_
  refine eqf_cons (by rfl) (by go_simp; first | done | rfl) (by go_simp; first | done | rfl) (eqInt _ _ _ _) ?_
  refine eqf_cons (by rfl) (by go_simp; first | done | rfl) (by go_simp; first | done | rfl) (eqInt _ _ _ _) ?_
  refine eqf_cons (by rfl) (by go_simp; first | done | rfl) (by go_simp; first | done | rfl) (eqInt _ _ _ _) ?_
  refine eqf_cons (by rfl) (by go_simp; first | done | rfl) (by go_simp; first | done | rfl) (eqKey (d + 0) w x.key y.key) ?_
  refine eqf_cons (by rfl) (by go_simp; first | done | rfl) (by go_simp; first | done | rfl) (eqInt _ _ _ _) ?_
  refine eqf_cons (by rfl) (by go_simp; first | done | rfl) (by go_simp; first | done | rfl) (eqInt _ _ _ _) ?_
  refine eqf_cons (by rfl) (by go_simp; first | done | rfl) (by go_simp; first | done | rfl) (eqStr _ _ _ _) ?_
  refine eqf_cons (by rfl) (by go_simp; first | done | rfl) (by go_simp; first | done | rfl) (eqInt _ _ _ _) ?_
  refine eqf_cons (by rfl) (by go_simp; first | done | rfl) (by go_simp; first | done | rfl) (eqInt _ _ _ _) ?_
  refine eqf_cons (by rfl) (by go_simp; first | done | rfl) (by go_simp; first | done | rfl) (eqId (d + 1) w x.root y.root) ?_
  refine eqf_cons (by rfl) (by go_simp; first | done | rfl) (by go_simp; first | done | rfl) (eqKey (d + 0) w x.parent y.parent) ?_
  refine eqf_cons (by rfl) (by go_simp; first | done | rfl) (by go_simp; first | done | rfl) (eqInt _ _ _ _) ?_
  refine eqf_cons (by rfl) (by go_simp; first | done | rfl) (by go_simp; first | done | rfl) (eqInt _ _ _ _) ?_
  refine eqf_cons (by rfl) (by go_simp; first | done | rfl) (by go_simp; first | done | rfl) (eqBool _ _ _ _) ?_
  exact eqf_last (by rfl) (by go_simp; first | done | rfl) (by go_simp; first | done | rfl) (eqInt _ _ _ _)
theorem eqTPacket (w : World) (x y : Packet) : (Op.equalIn 10000 58 (.agg (Packet.arr x)) (.agg (Packet.arr y))).run Tryz.prog w = .ok (decide (x = y)) w := eqPacket 9996 w x y
theorem eqGoOp (d : Nat) (w : World) (x y : GoOp) : (Op.equalIn (d + 2) 110 (.agg (GoOp.arr x)) (.agg (GoOp.arr y))).run Tryz.prog w = .ok (decide (x = y)) w := by
  have hb : decide (x = y) = (decide (x.kind = y.kind) && (decide (x.a = y.a) && decide (x.b = y.b))) := by
    rw [Bool.eq_iff_iff]; cases x; cases y; simp [GoOp.mk.injEq]
  rw [hb]
  refine eqA_of Tryz.underlying110 (by kernel_rfl) ?_
  refine eqf_cons (by rfl) (by go_simp; first | done | rfl) (by go_simp; first | done | rfl) (eqInt _ _ _ _) ?_
  refine eqf_cons (by rfl) (by go_simp; first | done | rfl) (by go_simp; first | done | rfl) (eqInt _ _ _ _) ?_
  exact eqf_last (by rfl) (by go_simp; first | done | rfl) (by go_simp; first | done | rfl) (eqInt _ _ _ _)
theorem eqTGoOp (w : World) (x y : GoOp) : (Op.equalIn 10000 110 (.agg (GoOp.arr x)) (.agg (GoOp.arr y))).run Tryz.prog w = .ok (decide (x = y)) w := eqGoOp 9998 w x y
theorem eqRoom (d : Nat) (w : World) (x y : Room) : (Op.equalIn (d + 2) 260 (.agg (Room.arr x)) (.agg (Room.arr y))).run Tryz.prog w = .ok (decide (x = y)) w := by
  have hb : decide (x = y) = (decide (x.now = y.now) && (decide (x.running = y.running) && (decide (x.programs = y.programs) && decide (x.seen = y.seen)))) := by
    rw [Bool.eq_iff_iff]; cases x; cases y; simp [Room.mk.injEq]
  rw [hb]
  refine eqA_of Tryz.underlying260 (by kernel_rfl) ?_
  refine eqf_cons (by rfl) (by go_simp; first | done | rfl) (by go_simp; first | done | rfl) (eqInt _ _ _ _) ?_
  refine eqf_cons (by rfl) (by go_simp; first | done | rfl) (by go_simp; first | done | rfl) (eqInt _ _ _ _) ?_
  refine eqf_cons (by rfl) (by go_simp; first | done | rfl) (by go_simp; first | done | rfl) (eqInt _ _ _ _) ?_
  exact eqf_last (by rfl) (by go_simp; first | done | rfl) (by go_simp; first | done | rfl) (eqBool _ _ _ _)
theorem eqTRoom (w : World) (x y : Room) : (Op.equalIn 10000 260 (.agg (Room.arr x)) (.agg (Room.arr y))).run Tryz.prog w = .ok (decide (x = y)) w := eqRoom 9998 w x y
theorem builtId (x : Id) : Tryz.prog.built 54 [(0, .int .i64 x.node), (1, .int .i64 x.inc), (2, .int .i64 x.seq)] = some (Id.arr x) := by kernel_rfl
theorem builtKey (x : Key) : Tryz.prog.built 56 [(0, .agg (Id.arr x.id)), (1, .int .i64 x.att)] = some (Key.arr x) := by kernel_rfl
theorem builtEvent (x : Event) : Tryz.prog.built 73 [(0, .int .i64 x.kind), (1, .int .i64 x.real), (2, .int .i64 x.node), (3, .int .i64 x.loc), (4, .agg (Key.arr x.key)), (5, .agg (Key.arr x.parent)), (6, .agg (Id.arr x.root)), (7, .int .i64 x.hop), (8, .int .i64 x.code), (9, .int .i64 x.value)] = some (Event.arr x) := by kernel_rfl
theorem builtPacket (x : Packet) : Tryz.prog.built 58 [(0, .int .i64 x.kind), (1, .int .i64 x.src), (2, .int .i64 x.dst), (3, .agg (Key.arr x.key)), (4, .int .i64 x.hop), (5, .int .i64 x.stamp), (6, .string x.timeout), (7, .int .i64 x.until_), (8, .int .i64 x.program), (9, .agg (Id.arr x.root)), (10, .agg (Key.arr x.parent)), (11, .int .i64 x.code), (12, .int .i64 x.value), (13, .bool x.more), (14, .int .i64 x.delay)] = some (Packet.arr x) := by kernel_rfl
theorem builtGoOp (x : GoOp) : Tryz.prog.built 110 [(0, .int .i64 x.kind), (1, .int .i64 x.a), (2, .int .i64 x.b)] = some (GoOp.arr x) := by kernel_rfl
theorem builtRoom (x : Room) : Tryz.prog.built 260 [(0, .int .i64 x.now), (1, .int .i64 x.running), (2, .int .i64 x.programs), (3, .bool x.seen)] = some (Room.arr x) := by kernel_rfl
end Go.Proofs.YtmpjjmilodjecaaGreatDoor
